import Derived.Test.YtfdimggmljkkbaaGreatDoorP32
import Derived.Test.YtfdimggmljkkbaaGreatDoorP26
open Go renaming wpQuiet_nil → lA
open Go.Lib renaming hasPrefix → lM
open Go.Proofs.Tryz renaming prog → lB
open Go.RowKit.Below renaming refl → lD
open Go.Value renaming oneCell' → lL
open Go.World renaming alloc → lI
open Iff renaming rfl → lH
open List renaming map_cons → lE, map_nil → lF, mem_singleton → lN, append_nil → lO
open Nat renaming le_trans → lC, lt_of_lt_of_le → lG, zero_le → lJ, le_refl → lK
namespace Go.Proofs.YtfdimggmljkkbaaGreatDoor
section
set_option maxRecDepth 100000
set_option maxHeartbeats 16000000
open Go.Lib renaming hid → iD
open Go.Proofs.Tryz
open Go.RowKit
theorem Z7h{w2 wa:World}{p lo:Nat}{cs old:List Value}{c:PCom}(hb:Below w2.heap.size w2 wa)(hp:w2.heap.size<=p)(hB:Blk wa p 82 old)(hC:Y8 wa (Yr wa lo) cs c) :
  Blk (wa.setRow p cs.toArray) p 82 cs/\Y8 (wa.setRow p cs.toArray) (Yr (wa.setRow p cs.toArray) lo) cs c/\Below w2.heap.size w2 (wa.setRow p cs.toArray) :=
 ⟨hB.setRow_same _,hC.touchP (Touch.setRow (L:=[p]) (by simp) _) (fun i hi t cs' hB'=>by
  obtain rfl:i=p:=by simpa using hi
  rw[hB'.unique hB];exact⟨by decide,by decide⟩),below_setRow hb hp _⟩
def G3(n:Str):Bool:=lM n [35]
theorem Zdw(n:Str)(w:World):Calls lB 32 #[Z0 n] w fun e w'=>e=.returned (.bool (G3 n))/\w'=w:=by
 have hp:=Tryz.strings_HasPrefix ⟨n.toArray⟩ ⟨#[35]⟩ w;have e:lM (⟨n.toArray⟩:ByteArray).data.toList (⟨#[35]⟩:ByteArray).data.toList=G3 n:=by unfold G3;simp
 rw[e] at hp;unfold Z0;go_enter func32,ntmps32;go_wp2_with fail;refine hp.mono ?_;rintro e w' ⟨rfl,rfl⟩;go_wp2_with fail;go_returns;exact⟨rfl,rfl⟩
theorem Gp{L:List PCom}{T:Tab}(hO:RpOk L T)(n:Str):InN (Z5 (Zi L (Zb T))) (Z4 T n)/\hOk (Z4 T n)/\(Z4 T n).length<=8:=by
 refine⟨fun d hd=>Zct hO.hist (Z0n T n d hd) (hO.has d (Z0n T n d hd)),fun d hd=>hO.hok d (Z0n T n d hd),?_⟩;unfold Z4;cases hf:T.find? (fun b=>b.name == n) with
 | none=>simp
 | some b=>exact (Z25 (hO.bok.2.1 b (List.mem_of_find?_eq_some hf)).2.2).1
theorem Zdx{P:List PCom}{c:PCom}(h:Qg P c=false):∀ x ∈ Z5 P,x.id ≠ idC c:=fun x hx e=>by
 unfold Qg at h;rw[List.any_eq_false] at h;exact h x hx (by simp[e])
def Vp(L:List PCom)(T:Tab)(ra n nt t:Str):PCom:=mkC (Zi L (Zb T)) (Z4 T n) ra nt t
structure ComMay (L:List PCom) (T:Tab) (ra n nt t:Str):Prop where
 name:Yi n=true
 tag:Z4 T n=[] ∨ G3 n=false
 author:Yi ra=true
 note:nt.length<=200
 text:t.length<=1000
 was:(Xw (J2 (Zi L (Zb T)) (Z4 T n))).length<=1000
 heads:(Yj (Z5 (Zi L (Zb T))) (Z4 T n)).length<=8
def Zdy(X:Nat->Prop)(w0:World)(base:Nat->Prop)(r rb g:Nat)(ra:Str)(L:List PCom)(T:Tab)(n:Str)(c:PCom)(E:Int)(S:DS)(ic:Nat)(w:World)(e:Ending)(w':World):Prop :=
 e=.returned (.int .i64 E)/\KeepsC ic w w'/\w.heap.size<=w'.heap.size/\Blk w' ic 47 ((if E=0 then idC c else X2).map B)/\∃ by' rbr,(E ≠ 15->rbr=false)/\RpM X w0 base r rb g by' ra false rbr (Xr L T (Jq (Zi L (Zb T)) c) E) (Xs T (Xd n (Z4 T n) c) E) S w'
theorem Zom(hRev:Q3)(hS:Uy){X:Nat->Prop}{w0:World}{base:Nat->Prop}{r rb g by_:Nat}{ra:Str}{L:List PCom}{T:Tab}{S:DS}{w:World}(h:RpM X w0 base r rb g by_ ra false false L T S w)(hO:RpOk L T)(hX:∀ b,X b->b<w.heap.size)
  (n nt t:Str) (hmy:ComMay L T ra n nt t) (m:Nat) (hI:Inv S m) (hm:m<4000000000000) (hky:∀ W,Stay base w0 W->Y9 W) (nb rc ob tb ic:Nat) (hnb:Blk w nb 9 [Z0 n]) (hrc:Blk w rc 24 [.pointer (some ⟨r,0,none⟩)]) (hob:Blk w ob 9 [Z0 nt]) (htb:Blk w tb 9 [Z0 t]) (hic:Blk w ic 47 Z3) (hicb:base ic) (hicX:X ic) :
  Calls lB 29 #[.pointer (some ⟨nb,0,none⟩),.pointer (some ⟨rc,0,none⟩),.pointer (some ⟨ob,0,none⟩),.pointer (some ⟨tb,0,none⟩),.pointer (some ⟨ic,0,none⟩)] w (Zdy X w0 base r rb g ra L T n (Vp L T ra n nt t) (Vn L T S n (Z4 T n) (Vp L T ra n nt t)) (Vo L T S n (Z4 T n) (Vp L T ra n nt t)) ic w):=by
 obtain⟨hn,htag,ha,hntl,htl,hft,h8⟩:=hmy;obtain⟨hgi,hgo,hgl⟩:=Gp hO n;have hPh:=hO.hist.past (Zb T);have hnl:=nmOk_len' hn;have hnm:=Od n w (by omega);have hcom0:=iD (fun W LV IV ok hL hI' hK=>Zob hS (Zi L (Zb T)) hPh (Z4 T n) hgi hgo (by omega) ra nt t ha hntl htl hft h8 LV IV ok W hL hI' hK);obtain⟨hcf,hcm⟩:=Zdq hPh (ids:=Z4 T n) (n:=nt) (tx:=t) ha hntl htl hft h8;have hnx:Qg (Zi L (Zb T)) (Vp L T ra n nt t)=false->NextOk (Z5 (Zi L (Zb T))) (Zi L (Zb T)) (Vp L T ra n nt t):=fun hh=>Zdr hPh hgi ha hntl htl hft h8 (Zdx hh);have hnx':=iD hnx;obtain⟨c,hcd⟩:∃ c,c=Vp L T ra n nt t:=⟨_,rfl⟩;have hcd':mkC (Zi L (Zb T)) (Z4 T n) ra nt t=c:=hcd.symm;rw[hcd'] at hcom0 hcf hcm;rw[<-hcd] at hnx' ⊢;clear hnx hcd' hft h8;have hca:c.author=ra:=by rw[hcd];rfl
 have hcn:c.note=nt:=by rw[hcd];rfl
 replace hcd:=iD hcd;obtain⟨np,hnp⟩:∃ np,np=c.parents.length:=⟨_,rfl⟩;obtain⟨no,hno⟩:∃ no,no=c.ops.length:=⟨_,rfl⟩;rw[<-hnp,<-hno] at hcom0;have hpl0:=iD (fun X' W hM' hX' OV hOV cs hc=>Zol hRev (X:=X') (w:=W) (r:=r) (rb:=rb) (g:=g) (by_:=by_) (ra:=ra) hM' hO hX' n (by omega) (Z4 T n) OV hOV hgo (by omega) c cs hc hcf hcm hnx'.out m hI hm hky);obtain⟨ids,hids⟩:∃ ids,ids=Z4 T n:=⟨_,rfl⟩;obtain⟨E,hE⟩:∃ E,E=Vn L T S n ids c:=⟨_,rfl⟩;obtain⟨Se,hSe⟩:∃ Se,Se=Vo L T S n ids c:=⟨_,rfl⟩;rw[<-hids] at hcom0 hpl0 hgi hgo hgl htag ⊢;rw[<-hE,<-hSe] at hpl0 ⊢;replace hE:=iD hE;replace hSe:=iD hSe;have hz4:∀ (a b c d:Value),(lB.info? 82).map (·.size)=some [a,b,c,d].length:=fun _ _ _ _=>Z26 rfl;replace hz4:=iD hz4;obtain⟨LV0,hR,_⟩:=h.repo;have n0:=hnb.cell 0;have r0:=hrc.cell 0;unfold Z0 at hnm n0;rw[hn] at hnm;replace hids:=iD hids;replace hnp:=iD hnp;replace hno:=iD hno;replace hca:=iD hca;replace hcn:=iD hcn;replace htag:=iD htag;go_enter func29,ntmps29;go_wp2_with fail;refine hnm.mono ?_;rintro e w' ⟨rfl,rfl⟩;clear n0 r0 hnm;go_wp2_with fail;obtain⟨PS,hPS⟩:∃ PS:World->Prop,∀ x,PS x ↔ Below w.heap.size w x:=⟨_,fun _=>lH⟩;have s0:∀ s:Cls PS,s.1.cell? ⟨nb,0,none⟩=some (.string ⟨n.toArray⟩):=fun s=>(hnb.below ((hPS _).1 s.2) hnb.lt).cell 0;have s1:∀ s:Cls PS,s.1.cell? ⟨rc,0,none⟩=some (.pointer (some ⟨r,0,none⟩)):=fun s=>(hrc.below ((hPS _).1 s.2) hrc.lt).cell 0;have s2:∀ s:Cls PS,s.1.cell? ⟨r,2,none⟩=some (.pointer (some ⟨rb,0,none⟩)):=fun s=>(hR.below ((hPS _).1 s.2) hR.lt).cell 2;have s4:PS w.drew:=(hPS _).2 (lD _ _).drew;haveI : Nonempty (Cls PS):=⟨⟨_,s4⟩⟩;replace hPS:=iD hPS;refine Kk (fun w'=>∃ s:Cls PS,w'=s.1) [([0,1,2,3,4],5)] [6,7,8,9] 10 [] (by kernel_rfl) (by kernel_rfl) (fun _ d _ _ _ h=>by cases d <;> exact h) ⟨⟨_,s4⟩,rfl⟩ ?_;simp only[Jr,Zj,lE,lF,Yw,Ys];repeat (first | go_big_quiet_step (fail))
 refine lA ?_;intro K hK;go_simp;have hbd:=(lD w.heap.size w).drew;obtain⟨vr,hBr,hTr⟩:=(h.below hbd).refs;have hget:=Z1t rb _ _ vr T n _ w.drew hBr hTr hO.fit hO.bok.2.2;unfold Z0 at hget;refine hget.mono ?_;rintro e w2 ⟨u,rfl,hu2,hb2⟩;rw[<-hids.out] at hu2 ⊢;obtain⟨th,hth⟩:∃ th,th=decide (ids ≠ []):=⟨_,rfl⟩;rw[<-hth];replace hth:=iD hth;have hb2':=hbd.trans hb2;obtain⟨UA,uc,rfl,_,_⟩:=id hu2;refine hK _ _ ⟨⟨_,(hPS.out _).2 hb2'⟩,rfl⟩ ?_;clear hK hget s0 s1 s2 s4 hb2 hbd hBr hTr hR;repeat (first | go_big_quiet_step (fail))
 refine lA ?_;have hnb2:=hnb.below hb2' hnb.lt;have hrc2:=hrc.below hb2' hrc.lt;have hob2:=hob.below hb2' hob.lt;have htb2:=htb.below hb2' htb.lt;have hic2:=hic.below hb2' hic.lt;have h2:=h.below hb2';obtain⟨LV2,hR2,_⟩:=h2.repo;have hicl:=hic.lt;have hu2':Z7 w2 (Yc w2 0) (.slice UA ids.length uc) ids:=hu2.stay (fun _ _ _=>rfl) (fun _ hb _=>⟨lJ _,hb.2⟩);clear hnb hrc hob htb hic h hu2;replace hu2':=iD hu2';replace hb2':=iD hb2';replace hnb2:=iD hnb2;replace hrc2:=iD hrc2;replace hob2:=iD hob2;replace htb2:=iD htb2;replace hic2:=iD hic2;replace hR2:=iD hR2;replace h2:=iD h2;replace hky:=iD hky;go_upto_region 4 with fail;go_cut [26] (fun v wx=>v=.bool false/\w2=wx)
 case first =>
  have n0:w2.cell? ⟨nb,0,none⟩=some (.string ⟨n.toArray⟩):=hnb2.out.cell 0;cases th with
  | false =>
   go_wp2_with fail;go_meet;exact⟨rfl,rfl⟩
  | true =>
   have htg:G3 n=false:=by
    rcases htag.out with h1 | h1
    ·have:=hth.out;rw[h1] at this;exact absurd this (by decide)
    ·exact h1
   have htn:=Zdw n w2;unfold Z0 at htn;rw[htg] at htn;replace htn:=iD htn;go_wp2_with (first
    | (go_at_call 32;(with_reducible refine htn.out.mono ?_);rintro e w3 ⟨rfl,rfl⟩))
   go_meet;exact⟨rfl,rfl⟩
 case rest =>
  obtain⟨rfl,rfl⟩:=hcut;obtain⟨P,hPd⟩:∃ P,P=Zi L (Zb T):=⟨_,rfl⟩;rw[<-hPd] at hcom0;have hpast:Hid (∀ W,Below w2.heap.size w2 W->Calls lB 22 #[.pointer (some ⟨r,0,none⟩)] W fun e W'=>∃ LA lc,e=.returned (.slice LA P.length lc)/\CsIs W' (fun _=>True) (.slice LA P.length lc) P/\Below W.heap.size W W'/\Below w2.heap.size w2 W'):=iD (fun W hb=>(Z46 hRev (h2.out.below hb) hO).mono (by
   rintro e w' ⟨V,rfl,hV,hb'⟩;rw[<-hPd] at hV;obtain⟨LA,lc,rfl⟩:=hV.form;exact⟨LA,lc,rfl,hV.read,hb',hb.trans (hb'.mono hb.size)⟩))
  have hcom:Hid (∀ W LV,Below w2.heap.size w2 W->CsIs W (fun _=>True) LV P->Calls lB 33 #[LV,.slice UA ids.length uc,.string ⟨ra.toArray⟩,.string ⟨nt.toArray⟩,.string ⟨t.toArray⟩] W fun e W'=>∃ PA pc OA oc,e=.returned (.tuple #[.agg #[.slice PA np pc,.string ⟨ra.toArray⟩,.string ⟨nt.toArray⟩,.slice OA no oc],.int .i64 0])/\Y8 W' (Yr W' w2.heap.size) [.slice PA np pc,.string ⟨ra.toArray⟩,.string ⟨nt.toArray⟩,.slice OA no oc] c/\Below W.heap.size W W'/\Below w2.heap.size w2 W'):=iD (fun W LV hb hL=>(hcom0.out W LV _ (fun _=>True) hL ((hu2'.out.stayB hb).stay (fun _ _ _=>rfl) (fun _ _ _=>trivial)) (hky.out _ (h2.out.bel.calm hb))).mono (by
   rintro e w' ⟨p,o,he,hp,ho,hb'⟩;obtain⟨PA,pc,rfl,_,_⟩:=Z6 hp;obtain⟨OA,oc,rfl,_,_⟩:=Z6 ho;refine⟨PA,pc,OA,oc,he,⟨_,_,by rw[hca.out,hcn.out];rfl,?_,?_⟩,hb',hb.trans (hb'.mono hb.size)⟩
   ·rw[hnp.out] at hp ⊢;exact (Gb hp).part.stay (fun _ _ _=>rfl) (fun b hb2 _=>⟨lC hb.size hb2.1,hb2.2⟩)
   ·rw[hno.out] at ho ⊢;exact (Zcx ho).stay (fun _ _ _=>rfl) (fun b hb2 _=>⟨lC hb.size hb2.1,hb2.2⟩)))
  replace hPd:=iD hPd;go_upto_region 6 with fail;go_cut [8,9] (fun p e wx=>∃ pb PA pc OA oc,p=.pointer (some ⟨pb,0,none⟩)/\e=.int .i64 0/\w2.heap.size<=pb/\Blk wx pb 82 [.slice PA np pc,.string ⟨ra.toArray⟩,.string ⟨nt.toArray⟩,.slice OA no oc]/\Y8 wx (Yr wx w2.heap.size) [.slice PA np pc,.string ⟨ra.toArray⟩,.string ⟨nt.toArray⟩,.slice OA no oc] c/\Below w2.heap.size w2 wx)
  case first =>
   obtain⟨PS,hPS⟩:∃ PS:World->Prop,∀ x,PS x ↔ Below w2.heap.size w2 x:=⟨_,fun _=>lH⟩;have s0:∀ s:Cls PS,s.1.cell? ⟨rc,0,none⟩=some (.pointer (some ⟨r,0,none⟩)):=fun s=>(hrc2.out.below ((hPS _).1 s.2) hrc2.out.lt).cell 0;have s1:∀ s:Cls PS,s.1.cell? ⟨r,4,none⟩=some (.string ⟨ra.toArray⟩):=fun s=>(hR2.out.below ((hPS _).1 s.2) hR2.out.lt).cell 4;have s2:∀ s:Cls PS,s.1.cell? ⟨ob,0,none⟩=some (.string ⟨nt.toArray⟩):=fun s=>(hob2.out.below ((hPS _).1 s.2) hob2.out.lt).cell 0;have s3:∀ s:Cls PS,s.1.cell? ⟨tb,0,none⟩=some (.string ⟨t.toArray⟩):=fun s=>(htb2.out.below ((hPS _).1 s.2) htb2.out.lt).cell 0;have hbd:=(lD w2.heap.size w2).drew;have s4:PS w2.drew:=(hPS _).2 hbd;haveI : Nonempty (Cls PS):=⟨⟨_,s4⟩⟩;replace hPS:=iD hPS;refine Ur (fun w'=>∃ s:Cls PS,w'=s.1) (.two [0,2,3,4,5,6,7,8] 1 (.two [] 9 (.one [10,11,12] 13 (.one [] 14 (.tail []))) 13 (.one [] 9 (.one [10,11,12] 14 (.tail [])))) 13 (.one [] 1 (.one [] 9 (.one [10,11,12] 14 (.tail []))))) 15 [] (by kernel_rfl) (by kernel_rfl) (fun _ d _ _ _ h=>by cases d <;> exact h) ⟨⟨_,s4⟩,rfl⟩ ?_;simp only[Kz,Qj,Zj,lE,lF,Yw,Ys];repeat (first | go_big_quiet_step (fail))
   refine lA ?_;refine⟨?_,?_⟩
   ·intro K hK;go_simp;refine (hpast.out _ hbd).mono ?_;rintro e w4 ⟨LA,lc,rfl,hP4,hb4,hb4'⟩;refine hK _ _ ⟨⟨_,(hPS.out _).2 hb4'⟩,rfl⟩ ?_;clear hK;have hs4:=hb4'.size;refine lA ?_;refine⟨?_,?_⟩
    ·intro K hK;go_simp;refine (hcom.out _ _ hb4' hP4).mono ?_;rintro e w5 ⟨PA,pc,OA,oc,rfl,hO5,hb5,hb5'⟩;refine hK _ _ ⟨⟨_,(hPS.out _).2 hb5'⟩,rfl⟩ ?_;clear hK;have hpz:=hb5'.size;have hOz:=hO5.calmP ((lD w5.heap.size w5).alloc (lK _) (.cells [Z2,.string ⟨#[]⟩,.string ⟨#[]⟩,Z2].toArray 82));have hbz:=hb5'.alloc hpz (.cells [Z2,.string ⟨#[]⟩,.string ⟨#[]⟩,Z2].toArray 82);have hBz:=Blk.new_at (w:=w5) (t:=82) (cs:=[Z2,.string ⟨#[]⟩,.string ⟨#[]⟩,Z2]) rfl;replace hO5:=iD hO5;repeat (first | go_big_quiet_step (fail))
     refine lA ?_;intro K hK;go_simp;obtain⟨q1,q2,q3⟩:=Z7h hbz hpz hBz hOz;refine hK _ _ ⟨⟨_,(hPS.out _).2 hbz⟩,rfl⟩ ?_;clear hK;replace hOz:=iD hOz;replace q1:=iD q1;replace q2:=iD q2;replace q3:=iD q3;replace hBz:=iD hBz;replace hpz:=iD hpz;repeat (first | go_big_quiet_step (fail))
     refine lA ?_;intro K hK;refine Z1g _ rfl 82 (.tmp 8) (.tmp 38) rfl w5.heap.size [.slice PA np pc,.string ⟨ra.toArray⟩,.string ⟨nt.toArray⟩,.slice OA no oc] rfl rfl 82 [Z2,.string ⟨#[]⟩,.string ⟨#[]⟩,Z2] hBz.out rfl (hz4.out _ _ _ _) (by simp[lL]) ?_;refine hK _ _ ⟨⟨_,(hPS.out _).2 q3.out⟩,rfl⟩ ?_;clear hK;refine lA ?_;go_wp2_with fail;go_meet;exact⟨_,PA,pc,OA,oc,rfl,rfl,hpz.out,q1.out,q2.out,q3.out⟩
    ·intro K hK;go_simp;have hba:=hb4'.alloc hs4 (.cells [Z2,.string ⟨#[]⟩,.string ⟨#[]⟩,Z2].toArray 82);have hBa:=Blk.new_at (w:=w4) (t:=82) (cs:=[Z2,.string ⟨#[]⟩,.string ⟨#[]⟩,Z2]) rfl;refine hK _ _ ⟨⟨_,(hPS.out _).2 hba⟩,rfl⟩ ?_;clear hK;refine lA ?_;intro K hK;go_simp;refine (hcom.out _ _ hba (hP4.stayB ((lD w4.heap.size w4).alloc (lK _) _))).mono ?_;rintro e w5 ⟨PA,pc,OA,oc,rfl,hOz,hb5,hbz⟩;have hBz:=hBa.below hb5 hBa.lt;have hpz:=hs4;clear hBa hba;obtain⟨q1,q2,q3⟩:=Z7h hbz hpz hBz hOz;refine hK _ _ ⟨⟨_,(hPS.out _).2 hbz⟩,rfl⟩ ?_;clear hK;replace hOz:=iD hOz;replace q1:=iD q1;replace q2:=iD q2;replace q3:=iD q3;replace hBz:=iD hBz;replace hpz:=iD hpz;repeat (first | go_big_quiet_step (fail))
     refine lA ?_;intro K hK;refine Z1g _ rfl 82 (.tmp 8) (.tmp 38) rfl w4.heap.size [.slice PA np pc,.string ⟨ra.toArray⟩,.string ⟨nt.toArray⟩,.slice OA no oc] rfl rfl 82 [Z2,.string ⟨#[]⟩,.string ⟨#[]⟩,Z2] hBz.out rfl (hz4.out _ _ _ _) (by simp[lL]) ?_;refine hK _ _ ⟨⟨_,(hPS.out _).2 q3.out⟩,rfl⟩ ?_;clear hK;refine lA ?_;go_wp2_with fail;go_meet;exact⟨_,PA,pc,OA,oc,rfl,rfl,hpz.out,q1.out,q2.out,q3.out⟩
   ·intro K hK;go_simp;have hba:=hbd.alloc hbd.size (.cells [Z2,.string ⟨#[]⟩,.string ⟨#[]⟩,Z2].toArray 82);have hBa:=Blk.new_at (w:=w2.drew) (t:=82) (cs:=[Z2,.string ⟨#[]⟩,.string ⟨#[]⟩,Z2]) rfl;refine hK _ _ ⟨⟨_,(hPS.out _).2 hba⟩,rfl⟩ ?_;clear hK;refine lA ?_;intro K hK;go_simp;refine (hpast.out _ hba).mono ?_;rintro e w4 ⟨LA,lc,rfl,hP4,hb4,hb4'⟩;have hBc:=hBa.below hb4 hBa.lt;refine hK _ _ ⟨⟨_,(hPS.out _).2 hb4'⟩,rfl⟩ ?_;clear hK;refine lA ?_;intro K hK;go_simp;refine (hcom.out _ _ hb4' hP4).mono ?_;rintro e w5 ⟨PA,pc,OA,oc,rfl,hOz,hb5,hbz⟩;have hBz:=hBc.below hb5 hBc.lt;have hpz:=hbd.size;clear hBa hba hBc;obtain⟨q1,q2,q3⟩:=Z7h hbz hpz hBz hOz;refine hK _ _ ⟨⟨_,(hPS.out _).2 hbz⟩,rfl⟩ ?_;clear hK;replace hOz:=iD hOz;replace q1:=iD q1;replace q2:=iD q2;replace q3:=iD q3;replace hBz:=iD hBz;replace hpz:=iD hpz;repeat (first | go_big_quiet_step (fail))
    refine lA ?_;intro K hK;refine Z1g _ rfl 82 (.tmp 8) (.tmp 38) rfl w2.heap.size [.slice PA np pc,.string ⟨ra.toArray⟩,.string ⟨nt.toArray⟩,.slice OA no oc] rfl rfl 82 [Z2,.string ⟨#[]⟩,.string ⟨#[]⟩,Z2] hBz.out rfl (hz4.out _ _ _ _) (by simp[lL]) ?_;refine hK _ _ ⟨⟨_,(hPS.out _).2 q3.out⟩,rfl⟩ ?_;clear hK;refine lA ?_;go_wp2_with fail;go_meet;exact⟨_,PA,pc,OA,oc,rfl,rfl,hpz.out,q1.out,q2.out,q3.out⟩
  case rest =>
   obtain⟨pb,PA,pc,OA,oc,rfl,rfl,hpb,hB,hC,hb⟩:=hcut;have n0:wc.cell? ⟨nb,0,none⟩=some (.string ⟨n.toArray⟩):=(hnb2.out.below hb hnb2.out.lt).cell 0;have r0:wc.cell? ⟨rc,0,none⟩=some (.pointer (some ⟨r,0,none⟩)):=(hrc2.out.below hb hrc2.out.lt).cell 0;have p0:wc.cell? ⟨pb,0,none⟩=some (.slice PA np pc):=hB.cell 0;have p1:wc.cell? ⟨pb,1,none⟩=some (.string ⟨ra.toArray⟩):=hB.cell 1;have p2:wc.cell? ⟨pb,2,none⟩=some (.string ⟨nt.toArray⟩):=hB.cell 2;have p3:wc.cell? ⟨pb,3,none⟩=some (.slice OA no oc):=hB.cell 3;have hb3:=hb2'.out.trans (hb.mono hb2'.out.size);have hMc:=h2.out.below hb;have hz3:=hb3.size;have hpl:=hpl0.out X wc hMc (fun b hx=>lG (hX b hx) hz3) _ ((hu2'.out.stayB hb).stay (fun _ _ _=>rfl) (fun b hb4 _=>by
    obtain⟨cs,hBb⟩:=hb4.2;have hBc:=hBb.below hb hBb.lt;exact⟨_,cs,hBc,by decide,by decide,by decide,by decide⟩)) _ (hC.stay (fun _ _ _=>rfl) (fun b hb4 _=>⟨hb4.fr,fun hx=>by
    have h1:=hX b hx;have h3:=hb4.1;have h5:=hb2'.out.size;omega⟩))
   have hic3:=hic2.out.below hb hic2.out.lt;unfold Z0 at hpl;clear hB hC hb hpast hcom hpl0 hcom0;replace hic3:=iD hic3;replace hb3:=iD hb3;replace hMc:=iD hMc;replace hpl:=iD hpl;go_wp2_with fail;refine hpl.out.mono ?_;rintro e w4 ⟨rfl,hk4,hz4',by',rbr,hrb,hM4⟩;clear hpl n0 r0 p0 p1 p2 p3;obtain⟨dd,hdd⟩:∃ dd,dd=(if E=0 then idC c else X2):=⟨_,rfl⟩;have hdl:dd.length=32:=by
    rw[hdd];split
    ·exact Q0 c
    ·rfl
   rw[<-hdd];have hic4:=hk4.blk _ _ _ hic3.out (by decide) (by decide) (by decide) (by decide);replace hdd:=iD hdd;replace hdl:=iD hdl;replace hk4:=iD hk4;replace hM4:=iD hM4;replace hrb:=iD hrb;replace hic4:=iD hic4;go_wp2_with (first | (refine Zo rfl 47 (.tmp 4) (.tmp 49) rfl ic (dd.map B) rfl rfl 47 Z3 hic4.out (by simp[hdl.out,Z3]) (Za hdl.out) (Yk _) ?_) | fail);have ht5:Touch [ic] w4 (w4.setRow ic (dd.map B).toArray):=Touch.setRow (by simp) _;have hi5:Blk (w4.setRow ic (dd.map B).toArray) ic 47 (dd.map B):=hic4.out.setRow_same _;have hk5:KeepsC ic w (w4.setRow ic (dd.map B).toArray):=⟨fun k t' cs hB a1 a2 a3 a4 a5 =>
    (hk4.out.blk k t' cs (hB.below hb3.out hB.lt) a1 a2 a3 a4).touch ht5 (by simpa using a5),fun k o ho hm=>Gh ht5 (hk4.out.mark k o ((hb3.out.block k (On ho)).trans ho) hm) (by
     have h1:=hk4.out.mark k o ((hb3.out.block k (On ho)).trans ho) hm;intro hf;obtain rfl:k=ic:=by simpa using hf
     exact Uq h1 hm hic4.out)⟩
   have h5:=hM4.out.touch ht5 (fun i hi=>by
    obtain rfl:i=ic:=by simpa using hi
    exact⟨hicX,hicb,_,_,hic4.out,by decide,by decide,by decide,by decide,by decide⟩)
   have hz5:w.heap.size<=(w4.setRow ic (dd.map B).toArray).heap.size:=lC hb3.out.size (lC hz4' ht5.size);generalize w4.setRow ic (dd.map B).toArray=w5 at hi5 hk5 h5 hz5 ⊢;clear ht5;replace hi5:=iD hi5;replace hk5:=iD hk5;replace h5:=iD h5;go_wp2_with fail;go_returns;refine⟨rfl,hk5.out,hz5,by rw[<-hdd.out];exact hi5.out,by',rbr,hrb.out,?_⟩;rw[<-hids.out];exact h5.out
end
section
set_option maxRecDepth 100000
set_option maxHeartbeats 8000000
open Go.Lib renaming hid → iD
open Go.Proofs.Tryz
open Go.RowKit
def Z7i(r:Nat)(E:Int)(Q:World->Prop)(e:Ending)(w':World):Prop:=e=.returned (.int .i64 E)/\∃ w1,Q w1/\w'=w1.setCell ⟨r,5,none⟩ (.bool (E == 15))
theorem RpM.flag{X:Nat->Prop}{w0:World}{base:Nat->Prop}{r rb g by_:Nat}{ra:Str}{rbr:Bool}{L:List PCom}{T:Tab}{S:DS}{W:World}(h:RpM X w0 base r rb g by_ ra false rbr L T S W)(b:Bool):RpM X w0 base r rb g by_ ra b rbr L T S (W.setCell ⟨r,5,none⟩ (.bool b))/\KeepsR W (W.setCell ⟨r,5,none⟩ (.bool b))/\W.heap.size<=(W.setCell ⟨r,5,none⟩ (.bool b)).heap.size:=by
 obtain⟨LV,hR,hC⟩:=h.repo;obtain⟨v,hB,hT⟩:=h.refs;obtain⟨Lf,hD,hL,hn⟩:=h.disk;have ht:Touch [r] W (W.setCell ⟨r,5,none⟩ (.bool b)):=Touch.setCell (L:=[r]) _ (by simp);have hk:KeepsR W (W.setCell ⟨r,5,none⟩ (.bool b)):=KeepsR.one hR ht rfl;have hR':Blk (W.setCell ⟨r,5,none⟩ (.bool b)) r 32 (Xv LV by_ rb g ra b):=hR.set_ 5 (.bool b);refine⟨⟨h.bel.trans (ht.stay (fun i hi=>by
  obtain rfl:i=r:=by simpa using hi
  exact h.low.1)),fun i hi=>h.size i (lC ht.size hi),h.low,⟨LV,hR',hC.keepX hk ht.size⟩,h.map.touch ht (fun hm=>?_),⟨v,hB.touch ht (fun hm=>?_),hT.keepX hk⟩,Lf,hD.touch ht (fun i hi hm=>?_) (fun i hi cs hBi=>?_),hL,hn⟩,hk,ht.size⟩
 ·have e:by_=r:=by simpa using hm
  exact h.map.ne_blk hR e.symm
 ·have e:rb=r:=by simpa using hm
  exact hB.ne_ hR (by decide) e
 ·obtain rfl:i=r:=by simpa using hm
  obtain⟨bn,bs,pv,hDA,rfl⟩:=hD;exact hDA.tag hR (by decide) (by decide) hi
 ·obtain rfl:i=r:=by simpa using hi
  exact absurd (hBi.unique hR) (by decide)
theorem Zon(c0 c1 c2 c3 c4:Value)(r by_ rb g:Nat)(ra:Str)(LV:Value)(w:World)(hR:Blk w r 32 (Xv LV by_ rb g ra false))(E:Int)(Q:World->Prop)(hc:Calls lB 29 #[c0,c1,c2,c3,c4] w fun e w'=>e=.returned (.int .i64 E)/\Q w')(hQ:∀ w',Q w'->∃ LV' by',Blk w' r 32 (Xv LV' by' rb g ra false)) :
  Calls lB 28 #[.pointer (some ⟨r,0,none⟩),.func (.func 29) #[] #[c0,c1,c2,c3,c4]] w (Z7i r E Q):=by
 have hm:=Z1u r LV by_ rb g ra false w hR;have r5:w.cell? ⟨r,5,none⟩=some (.bool false):=hR.cell 5;replace hc:=iD hc;clear hR;go_enter func28,ntmps28;go_wp2_with fail;refine hm.mono ?_;rintro e w1 ⟨rfl,rfl⟩;go_wp2_with fail;refine hc.out.mono ?_;rintro e w2 ⟨rfl,h2⟩;obtain⟨LV',by',hR2⟩:=hQ w2 h2;have q5:w2.cell? ⟨r,5,none⟩=some (.bool false):=hR2.cell 5;have f5:=hR2.frozen 5;clear hR2 r5;go_wp2_with fail;go_returns;exact⟨rfl,w2,h2,rfl⟩
theorem Zoo(c0 c1 c2:Value)(r by_ rb g:Nat)(ra:Str)(LV:Value)(w:World)(hR:Blk w r 32 (Xv LV by_ rb g ra false))(E:Int)(Q:World->Prop)(hc:Calls lB 50 #[c0,c1,c2] w fun e w'=>e=.returned (.int .i64 E)/\Q w')(hQ:∀ w',Q w'->∃ LV' by',Blk w' r 32 (Xv LV' by' rb g ra false)) :
  Calls lB 28 #[.pointer (some ⟨r,0,none⟩),.func (.func 50) #[] #[c0,c1,c2]] w (Z7i r E Q):=by
 have hm:=Z1u r LV by_ rb g ra false w hR;have r5:w.cell? ⟨r,5,none⟩=some (.bool false):=hR.cell 5;replace hc:=iD hc;clear hR;go_enter func28,ntmps28;go_wp2_with fail;refine hm.mono ?_;rintro e w1 ⟨rfl,rfl⟩;go_wp2_with fail;refine hc.out.mono ?_;rintro e w2 ⟨rfl,h2⟩;obtain⟨LV',by',hR2⟩:=hQ w2 h2;have q5:w2.cell? ⟨r,5,none⟩=some (.bool false):=hR2.cell 5;have f5:=hR2.frozen 5;clear hR2 r5;go_wp2_with fail;go_returns;exact⟨rfl,w2,h2,rfl⟩
theorem Zop(c0 c1 c2:Value)(r by_ rb g:Nat)(ra:Str)(LV:Value)(w:World)(hR:Blk w r 32 (Xv LV by_ rb g ra false))(E:Int)(Q:World->Prop)(hc:Calls lB 53 #[c0,c1,c2] w fun e w'=>e=.returned (.int .i64 E)/\Q w')(hQ:∀ w',Q w'->∃ LV' by',Blk w' r 32 (Xv LV' by' rb g ra false)) :
  Calls lB 28 #[.pointer (some ⟨r,0,none⟩),.func (.func 53) #[] #[c0,c1,c2]] w (Z7i r E Q):=by
 have hm:=Z1u r LV by_ rb g ra false w hR;have r5:w.cell? ⟨r,5,none⟩=some (.bool false):=hR.cell 5;replace hc:=iD hc;clear hR;go_enter func28,ntmps28;go_wp2_with fail;refine hm.mono ?_;rintro e w1 ⟨rfl,rfl⟩;go_wp2_with fail;refine hc.out.mono ?_;rintro e w2 ⟨rfl,h2⟩;obtain⟨LV',by',hR2⟩:=hQ w2 h2;have q5:w2.cell? ⟨r,5,none⟩=some (.bool false):=hR2.cell 5;have f5:=hR2.frozen 5;clear hR2 r5;go_wp2_with fail;go_returns;exact⟨rfl,w2,h2,rfl⟩
def idE(E:Int)(c:PCom):Str:=if E=0 then idC c else X2
def Gq(X:Nat->Prop)(w0:World)(base:Nat->Prop)(r rb g:Nat)(ra:Str)(L:List PCom)(T:Tab)(E:Int)(S:DS)(w w':World):Prop :=
 KeepsR w w'/\w.heap.size<=w'.heap.size/\∃ by' rbr,(E ≠ 15->rbr=false)/\RpM X w0 base r rb g by' ra (E == 15) rbr L T S w'
theorem Z7j(hRev:Q3)(hS:Uy){X:Nat->Prop}{w0:World}{base:Nat->Prop}{r rb g by_:Nat}{ra:Str}{L:List PCom}{T:Tab}{S:DS}{w:World}(h:RpM X w0 base r rb g by_ ra false false L T S w)(hO:RpOk L T)(hX:∀ b,X b->b<w.heap.size)
  (n nt t:Str) (hmy:ComMay L T ra n nt t) (m:Nat) (hI:Inv S m) (hm:m<4000000000000) (hky:∀ W,Stay base w0 W->Y9 W) (E:Int) (Se:DS) (c:PCom) (hc:c=Vp L T ra n nt t) (hE:E=Vn L T S n (Z4 T n) c) (hSe:Se=Vo L T S n (Z4 T n) c) :
  Calls lB 8 #[.pointer (some ⟨r,0,none⟩),Z0 n,Z0 nt,Z0 t] w fun e w'=>e=.returned (.tuple #[.agg ((idE E c).map B).toArray,.int .i64 E])/\Gq X w0 base r rb g ra (Xr L T (Jq (Zi L (Zb T)) c) E) (Xs T (Xd n (Z4 T n) c) E) E Se w w':=by
 have hbs:=iD h.size;generalize hW:((((w.alloc (.cells #[.pointer (some ⟨r,0,none⟩)] 24)).alloc (.cells #[Z0 n] 9)).alloc (.cells #[Z0 nt] 9)).alloc (.cells #[Z0 t] 9))=w1;have hb1:Below w.heap.size w w1:=by rw[<-hW];exact ((bL.alloc (by simp) _).alloc (by simp;omega) _).alloc (by simp;omega) _
 have hs1:w1.heap.size=w.heap.size+4:=by rw[<-hW];simp
 have h1r:Blk w1 w.heap.size 24 [.pointer (some ⟨r,0,none⟩)]:=by rw[<-hW];exact (((Blk.new_at (cs:=[_]) rfl).alloc _).alloc _).alloc _
 have h1n:Blk w1 (w.heap.size+1) 9 [Z0 n]:=by rw[<-hW];exact ((Blk.new_at (cs:=[_]) (by simp)).alloc _).alloc _
 have h1o:Blk w1 (w.heap.size+2) 9 [Z0 nt]:=by rw[<-hW];exact (Blk.new_at (cs:=[_]) (by simp)).alloc _
 have h1t:Blk w1 (w.heap.size+3) 9 [Z0 t]:=by rw[<-hW];exact Blk.new_at (cs:=[_]) (by simp)
 have q0:w1.cell? ⟨w.heap.size,0,none⟩=some (.pointer (some ⟨r,0,none⟩)):=h1r.cell 0;have q1:∀ o,(w1.alloc o).cell? ⟨w.heap.size,0,none⟩=some (.pointer (some ⟨r,0,none⟩)):=fun o=>(h1r.alloc o).cell 0;replace h1r:=iD h1r;replace h1n:=iD h1n;replace h1o:=iD h1o;replace h1t:=iD h1t;replace h:=iD h;replace hc:=iD hc;replace hE:=iD hE;replace hSe:=iD hSe;unfold Z0 at hW ⊢;go_enter func8,ntmps8;go_wp2_with fail;generalize hW2:lI w1 _=w2;have hb2:Below w1.heap.size w1 w2:=by rw[<-hW2];exact bL
 have hi2:Blk w2 (w.heap.size+4) 47 Z3:=by rw[<-hW2];exact Blk.new_at (cs:=Z3) hs1.symm
 have h2r:=h1r.out.below hb2 h1r.out.lt;have h2n:=h1n.out.below hb2 h1n.out.lt;have h2o:=h1o.out.below hb2 h1o.out.lt;have h2t:=h1t.out.below hb2 h1t.out.lt;have hb2':=hb1.trans (hb2.mono hb1.size);have hM2:RpM (fun b=>X b ∨ b=w.heap.size+4) w0 base r rb g by_ ra false false L T S w2:=(h.out.wide.below hb2').weak (fun b hb=>by
  rcases hb with hb | hb
  ·exact .inl hb
  ·exact .inr (by omega))
 have hil:=hi2.lt;obtain⟨LV2,hR2,_⟩:=hM2.repo;have hc1:=Zom hRev hS hM2 hO (fun b hb=>by
  rcases hb with hb | hb
  ·have:=hX b hb;have:=hb2'.size;omega
  ·omega) n nt t hmy m hI hm hky _ _ _ _ _ h2n h2r h2o h2t hi2 (hbs.out _ (by omega)) (.inr rfl)
 rw[<-hc.out,<-hE.out,<-hSe.out] at hc1;unfold Zdy at hc1;have hwr:=Zon _ _ _ _ _ r by_ rb g ra LV2 w2 hR2 E _ hc1 (by
  rintro w' ⟨_,_,_,by',rbr,_,hM'⟩;obtain⟨LV',hR',_⟩:=hM'.repo;exact⟨LV',by',hR'⟩)
 clear hW hW2 q0 q1 h1r h1n h1o h1t hb1 hb2 hs1 h2r h2n h2o h2t hM2 hR2 hc1;replace hb2':=iD hb2';refine hwr.mono ?_;rintro e w3 ⟨rfl,w4,⟨hk3,hz3,hi3,by',rbr,hrb,hM3⟩,hw3⟩;obtain⟨dd,hdd⟩:∃ dd,dd=(if E=0 then idC c else X2):=⟨_,rfl⟩;have hdl:dd.length=32:=by
  rw[hdd];split
  ·exact Q0 c
  ·rfl
 rw[<-hdd] at hi3;obtain⟨hM4,hk4,hz4⟩:=hM3.flag (E == 15);have hi4:=hk4.blk _ _ _ hi3 (by decide) (by decide) (by decide) (by decide);rw[<-hw3] at hM4 hk4 hz4 hi4;clear hwr hi2 hw3 hi3 hM3;have hrow:=Z51 hi4;replace hdd:=iD hdd;replace hdl:=iD hdl;replace hi4:=iD hi4;replace hrow:=iD hrow;replace hM4:=iD hM4;replace hrb:=iD hrb;go_wp2_with (first
  | (refine Y0 rfl 47 (.tmp 8) rfl (w.heap.size+4) rfl 47 (dd.map B) hi4.out _ underlying47 rfl (Za hdl.out) ?_)
  | (refine Zo rfl 47 (.tmp 8) (.tmp 13) rfl (w.heap.size+4) (dd.map B) rfl rfl 47 (dd.map B) hi4.out rfl (Za hdl.out) (Yk _) ?_)
  | fail)
 rw[hrow.out];refine Ub rfl (w.heap.size+4) 47 (dd.map B) _ (.int .i64 E) rfl rfl hi4.out underlying47 rfl (Za hdl.out) rfl ⟨by rw[hdd.out];rfl,⟨fun k t' cs hB a1 a2 a3 a4=>?_,fun k o ho hmk=>?_⟩,lC hb2'.out.size (lC hz3 hz4),by',rbr,hrb.out,hM4.out.weak (fun b hb=>.inl hb)⟩
 ·exact hk4.blk _ _ _ (hk3.blk k t' cs (hB.below hb2'.out hB.lt) a1 a2 a3 a4 (by have:=hB.lt;omega)) a1 a2 a3 a4
 ·exact hk4.mark _ _ (hk3.mark k o ((hb2'.out.block k (On ho)).trans ho) hmk) hmk
end
section
set_option maxRecDepth 100000
set_option maxHeartbeats 8000000
open Go.Lib renaming hid → iD
open Go.Proofs.Tryz
open Go.RowKit
theorem Zdz{W:World}{ok:Nat->Prop}{cb:Nat}{n:Str}{old new:List Str}{OV NV:Value}(hC:Blk W cb 107 [Z0 n,OV,NV])(hO:Z7 W ok OV old)(hN:Z7 W ok NV new)(h1:ok cb) :
  Yz W ok (.slice (some ⟨cb,0,none⟩) 1 1) [⟨n,old,new⟩]:=by
 refine⟨_,1,[(OV,NV)],rfl,rfl,lK _,Rd.of_blk (r:=[]) hC rfl h1,fun k b u e1 e2=>?_⟩
 match k,e1,e2 with
 | 0,e1,e2 =>
  simp only[List.getElem?_cons_zero,Option.some.injEq] at e1 e2;subst e1;subst e2;exact⟨hO,hN⟩
 | k+1,e1,_=>simp at e1
theorem Yc.fr{w:World}{lo b:Nat}(h:Yc w lo b):Fr w b:=by
 obtain⟨_,cs,hB⟩:=h;exact⟨_,cs,hB,by decide,by decide,by decide,by decide⟩
theorem Ze0{n:Str}{old new:List Str}(hn:n.length<=1000000)(ho:hOk old)(hol:old.length<=1000)(hw:hOk new)(hwl:new.length<=1000):CFit [(⟨n,old,new⟩:Chg)]/\cOk [(⟨n,old,new⟩:Chg)] :=
 ⟨⟨by simp,fun x hx=>by
  obtain rfl:=lN.1 hx;exact⟨by show n.length<=_;omega,⟨by show old.length<=_;omega,ho⟩,⟨by show new.length<=_;omega,hw⟩⟩⟩,fun x hx=>by
  obtain rfl:=lN.1 hx;exact⟨ho,hw⟩⟩
theorem Zoq(hRev:Q3){X:Nat->Prop}{w0:World}{base:Nat->Prop}{r rb g by_:Nat}{ra:Str}{L:List PCom}{T:Tab}{S:DS}{w:World}(h:RpM X w0 base r rb g by_ ra false false L T S w)(hO:RpOk L T)(hX:∀ b,X b->b<w.heap.size)
  (n o:Str) (hn:Yi n=true) (hnn:Z4 T n=[]) (hno:Z4 T o ≠ []) (m:Nat) (hI:Inv S m) (hm:m<4000000000000) (hky:∀ W,Stay base w0 W->Y9 W) (nb rc ob:Nat) (hnb:Blk w nb 9 [Z0 n]) (hrc:Blk w rc 24 [.pointer (some ⟨r,0,none⟩)]) (hob:Blk w ob 9 [Z0 o]) (C:List Chg) (hCd:C=[⟨n,[],Z4 T o⟩]) :
  Calls lB 50 #[.pointer (some ⟨nb,0,none⟩),.pointer (some ⟨rc,0,none⟩),.pointer (some ⟨ob,0,none⟩)] w (Uz X w0 base r rb g ra L T [] C (K2 T [] C S) (Ku T [] C S) w):=by
 obtain⟨_,hgo,hgl⟩:=Gp hO o;have hnl:=nmOk_len' hn;have hnm:=Od n w (by omega);have hPh:=hO.hist.past (Zb T);obtain⟨hCf,hck⟩:=Ze0 (n:=n) (old:=[]) (new:=Z4 T o) (by omega) (fun d hd=>by cases hd) (by simp) hgo (by omega);rw[<-hCd] at hCf hck;obtain⟨hs,hhs⟩:∃ hs,hs=Z4 T o:=⟨_,rfl⟩;rw[<-hhs] at hCd hno hgl;obtain⟨LV0,hR,_⟩:=h.repo;have n0:=hnb.cell 0;unfold Z0 at hnm n0;rw[hn] at hnm;replace hhs:=iD hhs;replace hCd:=iD hCd;replace hnb:=iD hnb;replace hrc:=iD hrc;replace hob:=iD hob;replace hR:=iD hR;replace h:=iD h;replace hnn:=iD hnn;go_enter func50,ntmps50;go_wp2_with fail;refine hnm.mono ?_;rintro e w' ⟨rfl,rfl⟩;clear n0 hnm;go_wp2_with fail;obtain⟨PS,hPS⟩:∃ PS:World->Prop,∀ x,PS x ↔ Below w.heap.size w x:=⟨_,fun _=>lH⟩;have s0:∀ s:Cls PS,s.1.cell? ⟨nb,0,none⟩=some (.string ⟨n.toArray⟩):=fun s=>(hnb.out.below ((hPS _).1 s.2) hnb.out.lt).cell 0;have s1:∀ s:Cls PS,s.1.cell? ⟨rc,0,none⟩=some (.pointer (some ⟨r,0,none⟩)):=fun s=>(hrc.out.below ((hPS _).1 s.2) hrc.out.lt).cell 0;have s2:∀ s:Cls PS,s.1.cell? ⟨r,2,none⟩=some (.pointer (some ⟨rb,0,none⟩)):=fun s=>(hR.out.below ((hPS _).1 s.2) hR.out.lt).cell 2;have s4:PS w.drew:=(hPS _).2 (lD _ _).drew;haveI : Nonempty (Cls PS):=⟨⟨_,s4⟩⟩;replace hPS:=iD hPS;refine Kk (fun w'=>∃ s:Cls PS,w'=s.1) [([0,1,2,3,4],5)] [6,7,8,9] 10 [] (by kernel_rfl) (by kernel_rfl) (fun _ d _ _ _ h=>by cases d <;> exact h) ⟨⟨_,s4⟩,rfl⟩ ?_;simp only[Jr,Zj,lE,lF,Yw,Ys];repeat (first | go_big_quiet_step (fail))
 refine lA ?_;intro K hK;go_simp;have hbd:=(lD w.heap.size w).drew;obtain⟨vr,hBr,hTr⟩:=(h.out.below hbd).refs;have hget:=Z1t rb _ _ vr T n _ w.drew hBr hTr hO.fit hO.bok.2.2;unfold Z0 at hget;refine hget.mono ?_;rintro e w2 ⟨u1,rfl,hu1,hb1⟩;rw[hnn.out] at hu1 ⊢;have hb1':=hbd.trans hb1;obtain⟨U1A,u1c,rfl,_,_⟩:=id hu1;refine hK _ _ ⟨⟨_,(hPS.out _).2 hb1'⟩,rfl⟩ ?_;clear hK hget s0 s1 s2 s4 hb1 hbd hBr hTr;repeat (first | go_big_quiet_step (fail))
 refine lA ?_;have h2:=h.out.below hb1';have hob2:=hob.out.below hb1' hob.out.lt;have hnb2:=hnb.out.below hb1' hnb.out.lt;have hrc2:=hrc.out.below hb1' hrc.out.lt;have hR2:=hR.out.below hb1' hR.out.lt;have e1:decide (([]:List Str) ≠ [])=false:=by decide
 clear hnb hrc hob hR h hu1;replace hob:=iD hob2;replace hnb:=iD hnb2;replace hrc:=iD hrc2;replace hR:=iD hR2;replace h:=iD h2;clear hob2 hnb2 hrc2 hR2 h2;replace hb1':=iD hb1';go_wp2_with fail;obtain⟨PS,hPS⟩:∃ PS:World->Prop,∀ x,PS x ↔ Below w2.heap.size w2 x:=⟨_,fun _=>lH⟩;have s0:∀ s:Cls PS,s.1.cell? ⟨ob,0,none⟩=some (.string ⟨o.toArray⟩):=fun s=>(hob.out.below ((hPS _).1 s.2) hob.out.lt).cell 0;have s1:∀ s:Cls PS,s.1.cell? ⟨rc,0,none⟩=some (.pointer (some ⟨r,0,none⟩)):=fun s=>(hrc.out.below ((hPS _).1 s.2) hrc.out.lt).cell 0;have s2:∀ s:Cls PS,s.1.cell? ⟨r,2,none⟩=some (.pointer (some ⟨rb,0,none⟩)):=fun s=>(hR.out.below ((hPS _).1 s.2) hR.out.lt).cell 2;have s4:PS w2.drew:=(hPS _).2 (lD _ _).drew;haveI : Nonempty (Cls PS):=⟨⟨_,s4⟩⟩;replace hPS:=iD hPS;refine Kk (fun w'=>∃ s:Cls PS,w'=s.1) [([0,1,2,3,4],5)] [6,7,8,9] 10 [] (by kernel_rfl) (by kernel_rfl) (fun _ d _ _ _ h=>by cases d <;> exact h) ⟨⟨_,s4⟩,rfl⟩ ?_;simp only[Jr,Zj,lE,lF,Yw,Ys];repeat (first | go_big_quiet_step (fail))
 refine lA ?_;intro K hK;go_simp;have hbd:=(lD w2.heap.size w2).drew;obtain⟨vr,hBr,hTr⟩:=(h.out.below hbd).refs;have hget:=Z1t rb _ _ vr T o _ w2.drew hBr hTr hO.fit hO.bok.2.2;unfold Z0 at hget;refine hget.mono ?_;rintro e w3 ⟨u2,rfl,hu2,hb2⟩;rw[<-hhs.out] at hu2 ⊢;have hb2':=hbd.trans hb2;obtain⟨U2A,u2c,rfl,_,_⟩:=id hu2;refine hK _ _ ⟨⟨_,(hPS.out _).2 hb2'⟩,rfl⟩ ?_;clear hK hget s0 s1 s2 s4 hb2 hbd hBr hTr;repeat (first | go_big_quiet_step (fail))
 refine lA ?_;have h3:=h.out.below hb2';have hnb3:=hnb.out.below hb2' hnb.out.lt;have hrc3:=hrc.out.below hb2' hrc.out.lt;have e2:decide (hs ≠ [])=true:=decide_eq_true hno;have n0:w3.cell? ⟨nb,0,none⟩=some (.string ⟨n.toArray⟩):=hnb3.cell 0;have r0:w3.cell? ⟨rc,0,none⟩=some (.pointer (some ⟨r,0,none⟩)):=hrc3.cell 0;have hb03:=hb1'.out.trans (hb2'.mono hb1'.out.size);clear hnb hrc hob hR h hnb3 hrc3;replace h3:=iD h3;replace hu2:=iD hu2;replace hb03:=iD hb03;clear hb1' hb2';go_wp2_with fail;generalize hW4:lI w3 _=w4;have hb4:Below w3.heap.size w3 w4:=by rw[<-hW4];exact bL
 have hC4:Blk w4 w3.heap.size 107 [Z0 n,Z2,.slice U2A hs.length u2c]:=by rw[<-hW4];exact Blk.new_at (cs:=[Z0 n,Z2,.slice U2A hs.length u2c]) rfl
 have hu4:Z7 w4 (Fr w4) (.slice U2A hs.length u2c) hs:=(hu2.out.stayB hb4).stay (fun _ _ _=>rfl) (fun b hb _=>(KeepsR.below hb4).fr hb.fr);have hch:=Zdz (ok:=Fr w4) (n:=n) (old:=[]) hC4 Z7.nil hu4 ⟨_,_,hC4,by decide,by decide,by decide,by decide⟩;rw[<-hCd.out] at hch;have hb04:=hb03.out.trans (hb4.mono hb03.out.size);have htu:=Z7g hRev (h3.out.below hb4) hO (fun b hb=>lG (hX b hb) hb04.size) [] (by rw[lO];exact hPh) Z2 CsIs.nilV C _ hch hCf hck (by rw[hCd.out];simp) m hI hm hky;replace htu:=iD htu;have hk04:=KeepsR.below hb04;have hz04:=hb04.size;clear hW4 hb4 hC4 hu4 hch n0 r0 hb04 hb03;refine htu.out.mono ?_;rintro e w5 ⟨rfl,hk5,hz5,by',rbr,hrb,hM5⟩;have hfin:Uz X w0 base r rb g ra L T [] C (K2 T [] C S) (Ku T [] C S) w (.returned (.int .i64 (K2 T [] C S))) w5:=⟨rfl,hk04.trans hk5,lC hz04 hz5,by',rbr,hrb,hM5⟩;replace hfin:=iD hfin;clear htu hk5 hM5 hrb;go_wp2_with fail;go_returns;exact hfin.out
theorem Zor(hRev:Q3){X:Nat->Prop}{w0:World}{base:Nat->Prop}{r rb g by_:Nat}{ra:Str}{L:List PCom}{T:Tab}{S:DS}{w:World}(h:RpM X w0 base r rb g by_ ra false false L T S w)(hO:RpOk L T)(hX:∀ b,X b->b<w.heap.size)
  (n o:Str) (hn:Yi n=true) (hnn:Z4 T n=[]) (hno:Z4 T o ≠ []) (m:Nat) (hI:Inv S m) (hm:m<4000000000000) (hky:∀ W,Stay base w0 W->Y9 W) (C:List Chg) (hCd:C=[⟨n,[],Z4 T o⟩]) (E:Int) (hE:E=K2 T [] C S) (Se:DS) (hSe:Se=Ku T [] C S) :
  Calls lB 13 #[.pointer (some ⟨r,0,none⟩),Z0 n,Z0 o] w fun e w'=>e=.returned (.int .i64 E)/\Gq X w0 base r rb g ra (Xr L T [] E) (Xs T C E) E Se w w':=by
 generalize hW:(((w.alloc (.cells #[.pointer (some ⟨r,0,none⟩)] 24)).alloc (.cells #[Z0 n] 9)).alloc (.cells #[Z0 o] 9))=w1;have hb1:Below w.heap.size w w1:=by rw[<-hW];exact (bL.alloc (by simp) _).alloc (by simp;omega) _
 have h1r:Blk w1 w.heap.size 24 [.pointer (some ⟨r,0,none⟩)]:=by rw[<-hW];exact ((Blk.new_at (cs:=[_]) rfl).alloc _).alloc _
 have h1n:Blk w1 (w.heap.size+1) 9 [Z0 n]:=by rw[<-hW];exact (Blk.new_at (cs:=[_]) (by simp)).alloc _
 have h1o:Blk w1 (w.heap.size+2) 9 [Z0 o]:=by rw[<-hW];exact Blk.new_at (cs:=[_]) (by simp)
 have q0:w1.cell? ⟨w.heap.size,0,none⟩=some (.pointer (some ⟨r,0,none⟩)):=h1r.cell 0;have hM1:=h.below hb1;have hX1:∀ b,X b->b<w1.heap.size:=fun b hb=>lG (hX b hb) hb1.size;have hc1:=Zoq hRev hM1 hO hX1 n o hn hnn hno m hI hm hky _ _ _ h1n h1r h1o C hCd;rw[<-hE,<-hSe] at hc1;obtain⟨LV1,hR1,_⟩:=hM1.repo;have hwr:=Zoo _ _ _ r by_ rb g ra LV1 w1 hR1 E _ (hc1:Calls _ _ _ _ fun e w'=>e=.returned (.int .i64 E)/\_) (by
  rintro w' ⟨_,_,by',rbr,_,hM'⟩;obtain⟨LV',hR',_⟩:=hM'.repo;exact⟨LV',by',hR'⟩)
 replace hwr:=iD hwr;have hk1:=KeepsR.below hb1;have hz1:=hb1.size;clear hc1 hM1 hR1 h1r h1n h1o hb1 h hE hSe hCd;unfold Z0 at hW ⊢;go_enter func13,ntmps13;go_wp2_with fail;refine hwr.out.mono ?_;rintro e w3 ⟨rfl,w4,⟨hk4,hz4,by',rbr,hrb,hM4⟩,hw3⟩;obtain⟨hM5,hk5,hz5⟩:=hM4.flag (E == 15);rw[<-hw3] at hM5 hk5 hz5;have hfin:Gq X w0 base r rb g ra (Xr L T [] E) (Xs T C E) E Se w w3:=⟨(hk1.trans hk4).trans hk5,lC hz1 (lC hz4 hz5),by',rbr,hrb,hM5⟩;replace hfin:=iD hfin;clear hwr hk4 hM4 hM5 hk5 hw3 hrb;go_wp2_with fail;go_returns;exact⟨rfl,hfin.out⟩
theorem Zos{X:Nat->Prop}{w0:World}{base:Nat->Prop}{r rb g by_:Nat}{ra:Str}{br rbr:Bool}{L:List PCom}{T:Tab}{S:DS}{w:World}(h:RpM X w0 base r rb g by_ ra br rbr L T S w)(hO:RpOk L T)(n o:Str)(hn:Yi n=true)(hnn:Z4 T n ≠ [])(hno:Z4 T o ≠ [])(htg:G3 n=false) :
  Calls lB 36 #[.pointer (some ⟨r,0,none⟩),Z0 n,Z0 o] w fun e w'=>∃ a b,e=.returned (.tuple #[a,b,.int .i64 0])/\Z7 w' (Yc w' w.heap.size) a (Z4 T n)/\Z7 w' (Yc w' w.heap.size) b (Z4 T o)/\Below w.heap.size w w':=by
 have hnl:=nmOk_len' hn;have hnm:=Od n w (by omega);have htn:=iD (fun W=>Zdw n W);obtain⟨LV0,hR,_⟩:=h.repo;obtain⟨vr,hBr,hTr⟩:=h.refs;have hg1:=iD (Z1t rb _ _ vr T n _ w hBr hTr hO.fit hO.bok.2.2);have hg2:=iD (fun W (hb:Below w.heap.size w W)=>Z1t rb _ _ vr T o _ W (hBr.below hb hBr.lt) (hTr.stayB hb) hO.fit hO.bok.2.2);obtain⟨an,han⟩:∃ an,an=Z4 T n:=⟨_,rfl⟩;obtain⟨ao,hao⟩:∃ ao,ao=Z4 T o:=⟨_,rfl⟩;unfold Zap at hg1 hg2;rw[<-han] at hg1 hnn ⊢;rw[<-hao] at hg2 hno ⊢;rw[decide_eq_true hnn] at hg1;rw[decide_eq_true hno] at hg2;rw[htg] at htn;have hRb:=iD (fun W (hb:Below w.heap.size w W)=>show W.cell? ⟨r,2,none⟩=some (.pointer (some ⟨rb,0,none⟩)) from (hR.below hb hR.lt).cell 2);have r2:w.cell? ⟨r,2,none⟩=some (.pointer (some ⟨rb,0,none⟩)):=hR.cell 2;unfold Z0 at hnm htn hg1 hg2 ⊢;rw[hn] at hnm;replace han:=iD han;replace hao:=iD hao;clear hR hBr hTr h;go_enter func36,ntmps36;go_wp2_with fail;refine hnm.mono ?_;rintro e w' ⟨rfl,rfl⟩;go_wp2_with fail;refine hg1.out.mono ?_;rintro e w2 ⟨u,rfl,hu,hb2⟩;obtain⟨UA,uc,rfl,_,_⟩:=id hu;have r2':=hRb.out _ hb2;clear hnm r2 hg1;replace hu:=iD hu;go_wp2_with fail;refine (hg2.out _ hb2).mono ?_;rintro e w3 ⟨x,rfl,hx,hb3⟩;obtain⟨XA,xc,rfl,_,_⟩:=id hx;have hu3:Z7 w3 (Yc w3 w.heap.size) (.slice UA an.length uc) an:=(hu.out.stayB hb3).stay (fun _ _ _=>rfl) (fun b hb _=>by
  obtain⟨h1,cs,hB⟩:=hb;exact⟨h1,cs,hB.below hb3 hB.lt⟩)
 have hx3:Z7 w3 (Yc w3 w.heap.size) (.slice XA ao.length xc) ao:=hx.stay (fun _ _ _=>rfl) (fun b hb _=>⟨lC hb2.size hb.1,hb.2⟩);have hbf:=hb2.trans (hb3.mono hb2.size);clear hu hx hb3 hb2 r2' hg2;replace hu3:=iD hu3;replace hx3:=iD hx3;replace hbf:=iD hbf;go_wp2_with (first
  | (go_at_call 32;(with_reducible refine (htn.out _).mono ?_);rintro e w4 ⟨rfl,rfl⟩))
 go_returns;exact⟨_,_,rfl,hu3.out,hx3.out,hbf.out⟩
theorem Zot(hRev:Q3)(hS:Uy){X:Nat->Prop}{w0:World}{base:Nat->Prop}{r rb g by_:Nat}{ra:Str}{L:List PCom}{T:Tab}{S:DS}{w:World}(h:RpM X w0 base r rb g by_ ra false false L T S w)(hO:RpOk L T)(hX:∀ b,X b->b<w.heap.size)
  (n o:Str) (hn:Yi n=true) (hnn:Z4 T n ≠ []) (hno:Z4 T o ≠ []) (htg:G3 n=false) (h8:(Yj (Z5 (Zi L (Zb T))) (Z4 T n++Z4 T o)).length<=8) (m:Nat) (hI:Inv S m) (hm:m<4000000000000) (hky:∀ W,Stay base w0 W->Y9 W) (nb rc ob:Nat) (hnb:Blk w nb 9 [Z0 n]) (hrc:Blk w rc 24 [.pointer (some ⟨r,0,none⟩)]) (hob:Blk w ob 9 [Z0 o]) (C:List Chg) (hCd:C=[⟨n,Z4 T n,Yj (Z5 (Zi L (Zb T))) (Z4 T n++Z4 T o)⟩]) :
  Calls lB 53 #[.pointer (some ⟨rc,0,none⟩),.pointer (some ⟨nb,0,none⟩),.pointer (some ⟨ob,0,none⟩)] w (Uz X w0 base r rb g ra L T [] C (K2 T [] C S) (Ku T [] C S) w):=by
 obtain⟨hi1,hg1,hl1⟩:=Gp hO n;obtain⟨hi2,hg2,hl2⟩:=Gp hO o;have hnl:=nmOk_len' hn;have hPh:=hO.hist.past (Zb T);obtain⟨hCf,hck⟩:=Ze0 (n:=n) (old:=Z4 T n) (new:=Yj (Z5 (Zi L (Zb T))) (Z4 T n++Z4 T o)) (by omega) hg1 (by omega) (Z78 hPh.ndsAll _) (by omega);rw[<-hCd] at hCf hck;have hbo:=Zos h hO n o hn hnn hno htg;have hmg:=iD (fun W LV AV BV hL hA hB hK=>Zdt hS (Zi L (Zb T)) hPh (Z4 T n) (Z4 T o) hi1 hi2 hg1 hg2 (by omega) LV AV BV (fun _=>True) W hL hA hB hK);obtain⟨P,hPd⟩:∃ P,P=Zi L (Zb T):=⟨_,rfl⟩;rw[<-hPd] at hmg hCd h8;obtain⟨an,han⟩:∃ an,an=Z4 T n:=⟨_,rfl⟩;obtain⟨ao,hao⟩:∃ ao,ao=Z4 T o:=⟨_,rfl⟩;rw[<-han,<-hao] at hmg hCd h8 hbo;obtain⟨hs,hhs⟩:∃ hs,hs=Yj (Z5 P) (an++ao):=⟨_,rfl⟩;rw[<-hhs] at hmg hCd h8;have n0:=hnb.cell 0;have r0:=hrc.cell 0;have o0:=hob.cell 0;unfold Z0 at hbo n0 o0;replace hPd:=iD hPd;replace han:=iD han;replace hao:=iD hao;replace hhs:=iD hhs;replace hCd:=iD hCd;replace hbo:=iD hbo;replace h:=iD h;clear hg1 hg2 hi1 hi2 hl1 hl2;go_enter func53,ntmps53;go_wp2_with fail;refine hbo.out.mono ?_;rintro e w2 ⟨a,b,rfl,ha,hb,hb2⟩;obtain⟨AA,ac,rfl,_,_⟩:=id ha;obtain⟨BA,bc,rfl,_,_⟩:=id hb;have h2:=h.out.below hb2;have r0':=(hrc.below hb2 hrc.lt).cell 0;have n0':=hnb.below hb2 hnb.lt;have hrc2:=hrc.below hb2 hrc.lt;clear n0 r0 o0 hbo hnb hrc hob;have hps:=Z46 hRev h2 hO;rw[<-hPd.out] at hps;replace ha:=iD ha;replace hb:=iD hb;replace hb2:=iD hb2;replace h2:=iD h2;replace hps:=iD hps;replace n0':=iD n0';replace hrc2:=iD hrc2;go_wp2_with fail;refine hps.out.mono ?_;rintro e w3 ⟨PV,rfl,hP3,hb3⟩;obtain⟨PA,pc,rfl⟩:=hP3.form;have hb03:=hb2.out.trans (hb3.mono hb2.out.size);have hmc:=hmg.out w3 _ _ _ hP3.read ((ha.out.stayB hb3).stay (fun _ _ _=>rfl) (fun _ _ _=>trivial)) ((hb.out.stayB hb3).stay (fun _ _ _=>rfl) (fun _ _ _=>trivial)) (hky _ (h2.out.bel.calm hb3));have h3:=h2.out.below hb3;have hn3:=n0'.out.below hb3 n0'.out.lt;have hr3:=hrc2.out.below hb3 hrc2.out.lt;have ha3:Z7 w3 (Yc w3 0) (.slice AA an.length ac) an:=(ha.out.stayB hb3).stay (fun _ _ _=>rfl) (fun b hb _=>by
  obtain⟨_,cs,hB⟩:=hb;exact⟨lJ _,cs,hB.below hb3 hB.lt⟩)
 clear hP3 hb3 hps ha hb h2 n0' hrc2 r0' hb2;replace hmc:=iD hmc;replace h3:=iD h3;replace ha3:=iD ha3;replace hb03:=iD hb03;replace hn3:=iD hn3;replace hr3:=iD hr3;go_wp2_with fail;refine hmc.out.mono ?_;rintro e w4 ⟨hcase,hb4⟩;rcases hcase with ⟨h9,_⟩ | ⟨_,v,rfl,hrow⟩
 ·exact absurd h8 (by omega)
 obtain⟨VA,vc,rfl,_,_⟩:=Z6 hrow;have h4:=h3.out.below hb4;have hn4:=(hn3.out.below hb4 hn3.out.lt).cell 0;have hr4:=(hr3.out.below hb4 hr3.out.lt).cell 0;have ha4:Z7 w4 (Yc w4 0) (.slice AA an.length ac) an:=(ha3.out.stayB hb4).stay (fun _ _ _=>rfl) (fun b hb _=>by
  obtain⟨_,cs,hB⟩:=hb;exact⟨lJ _,cs,hB.below hb4 hB.lt⟩)
 have hv4:=Gb hrow;have hb04:=hb03.out.trans (hb4.mono hb03.out.size);unfold Z0 at hn4;clear hrow hmc h3 ha3 hb03 hb4 hn3 hr3;replace h4:=iD h4;replace ha4:=iD ha4;replace hv4:=iD hv4;replace hb04:=iD hb04;go_wp2_with fail;generalize hW5:lI w4 _=w5;have hb5:Below w4.heap.size w4 w5:=by rw[<-hW5];exact bL
 have hC5:Blk w5 w4.heap.size 107 [Z0 n,.slice AA an.length ac,.slice VA hs.length vc]:=by rw[<-hW5];exact Blk.new_at (cs:=[Z0 n,.slice AA an.length ac,.slice VA hs.length vc]) rfl
 have ha5:Z7 w5 (Fr w5) (.slice AA an.length ac) an:=(ha4.out.stayB hb5).stay (fun _ _ _=>rfl) (fun b hb _=>(KeepsR.below hb5).fr hb.fr);have hv5:Z7 w5 (Fr w5) (.slice VA hs.length vc) hs:=(hv4.out.stayB hb5).stay (fun _ _ _=>rfl) (fun b hb _=>(KeepsR.below hb5).fr hb.fr);have hch:=Zdz (ok:=Fr w5) (n:=n) hC5 ha5 hv5 ⟨_,_,hC5,by decide,by decide,by decide,by decide⟩;rw[<-hCd.out] at hch;have hb05:=hb04.out.trans (hb5.mono hb04.out.size);have htu:=Z7g hRev (h4.out.below hb5) hO (fun b hb=>lG (hX b hb) hb05.size) [] (by rw[lO];exact hPh) Z2 CsIs.nilV C _ hch hCf hck (by rw[hCd.out];simp) m hI hm hky;replace htu:=iD htu;have hk05:=KeepsR.below hb05;have hz05:=hb05.size;clear hW5 hb5 hC5 ha5 hv5 hch hb05 hb04 hn4 hr4;refine htu.out.mono ?_;rintro e w6 ⟨rfl,hk6,hz6,by',rbr,hrb,hM6⟩;have hfin:Uz X w0 base r rb g ra L T [] C (K2 T [] C S) (Ku T [] C S) w (.returned (.int .i64 (K2 T [] C S))) w6:=⟨rfl,hk05.trans hk6,lC hz05 hz6,by',rbr,hrb,hM6⟩;replace hfin:=iD hfin;clear htu hk6 hM6 hrb;go_wp2_with fail;go_returns;exact hfin.out
theorem Zou(hRev:Q3)(hS:Uy){X:Nat->Prop}{w0:World}{base:Nat->Prop}{r rb g by_:Nat}{ra:Str}{L:List PCom}{T:Tab}{S:DS}{w:World}(h:RpM X w0 base r rb g by_ ra false false L T S w)(hO:RpOk L T)(hX:∀ b,X b->b<w.heap.size)
  (n o:Str) (hn:Yi n=true) (hnn:Z4 T n ≠ []) (hno:Z4 T o ≠ []) (htg:G3 n=false) (h8:(Yj (Z5 (Zi L (Zb T))) (Z4 T n++Z4 T o)).length<=8) (m:Nat) (hI:Inv S m) (hm:m<4000000000000) (hky:∀ W,Stay base w0 W->Y9 W) (C:List Chg) (hCd:C=[⟨n,Z4 T n,Yj (Z5 (Zi L (Zb T))) (Z4 T n++Z4 T o)⟩]) (E:Int) (hE:E=K2 T [] C S) (Se:DS) (hSe:Se=Ku T [] C S) :
  Calls lB 15 #[.pointer (some ⟨r,0,none⟩),Z0 n,Z0 o] w fun e w'=>e=.returned (.int .i64 E)/\Gq X w0 base r rb g ra (Xr L T [] E) (Xs T C E) E Se w w':=by
 generalize hW:(((w.alloc (.cells #[.pointer (some ⟨r,0,none⟩)] 24)).alloc (.cells #[Z0 n] 9)).alloc (.cells #[Z0 o] 9))=w1;have hb1:Below w.heap.size w w1:=by rw[<-hW];exact (bL.alloc (by simp) _).alloc (by simp;omega) _
 have h1r:Blk w1 w.heap.size 24 [.pointer (some ⟨r,0,none⟩)]:=by rw[<-hW];exact ((Blk.new_at (cs:=[_]) rfl).alloc _).alloc _
 have h1n:Blk w1 (w.heap.size+1) 9 [Z0 n]:=by rw[<-hW];exact (Blk.new_at (cs:=[_]) (by simp)).alloc _
 have h1o:Blk w1 (w.heap.size+2) 9 [Z0 o]:=by rw[<-hW];exact Blk.new_at (cs:=[_]) (by simp)
 have q0:w1.cell? ⟨w.heap.size,0,none⟩=some (.pointer (some ⟨r,0,none⟩)):=h1r.cell 0;have hM1:=h.below hb1;have hX1:∀ b,X b->b<w1.heap.size:=fun b hb=>lG (hX b hb) hb1.size;have hc1:=Zot hRev hS hM1 hO hX1 n o hn hnn hno htg h8 m hI hm hky _ _ _ h1n h1r h1o C hCd;rw[<-hE,<-hSe] at hc1;obtain⟨LV1,hR1,_⟩:=hM1.repo;have hwr:=Zop _ _ _ r by_ rb g ra LV1 w1 hR1 E _ (hc1:Calls _ _ _ _ fun e w'=>e=.returned (.int .i64 E)/\_) (by
  rintro w' ⟨_,_,by',rbr,_,hM'⟩;obtain⟨LV',hR',_⟩:=hM'.repo;exact⟨LV',by',hR'⟩)
 replace hwr:=iD hwr;have hk1:=KeepsR.below hb1;have hz1:=hb1.size;clear hc1 hM1 hR1 h1r h1n h1o hb1 h hE hSe hCd;unfold Z0 at hW ⊢;go_enter func15,ntmps15;go_wp2_with fail;refine hwr.out.mono ?_;rintro e w3 ⟨rfl,w4,⟨hk4,hz4,by',rbr,hrb,hM4⟩,hw3⟩;obtain⟨hM5,hk5,hz5⟩:=hM4.flag (E == 15);rw[<-hw3] at hM5 hk5 hz5;have hfin:Gq X w0 base r rb g ra (Xr L T [] E) (Xs T C E) E Se w w3:=⟨(hk1.trans hk4).trans hk5,lC hz1 (lC hz4 hz5),by',rbr,hrb,hM5⟩;replace hfin:=iD hfin;clear hwr hk4 hM4 hM5 hk5 hw3 hrb;go_wp2_with fail;go_returns;exact⟨rfl,hfin.out⟩
end
section
set_option maxRecDepth 100000
set_option maxHeartbeats 8000000
open Go.Lib renaming hid → iD
open Go.Proofs.Tryz
open Go.RowKit
theorem Zow{w0:World}{base:Nat->Prop}{g:Nat}{S:DS}{W:World}(h:Ses w0 base g S W)(hS:Live S none)(a:Str)(ha:Yi a=true) :
  Calls lB 18 #[.pointer (some ⟨g,0,none⟩),Z0 a] W fun e W'=>∃ r by_ rb v,e=.returned (.tuple #[.pointer (some ⟨r,0,none⟩),.int .i64 0])/\Blk W' r 32 (Xv Z2 by_ rb g a false)/\Zg W' by_ []/\Ref w0 base rb g v S [] W'/\base r/\base by_/\∃ Lf,J4 W' Lf g S/\(∀ i ∈ Lf,base i)/\by_ ∉ Lf:=by
 have hmm:=@run_makeMap lB;have hnm:=fun W=>Od a W (by have:=nmOk_len' ha;omega);unfold Z0 at hnm ⊢;simp only[ha] at hnm;replace hnm:=iD hnm;have hgo:∃ bn bs pv,DiskAt W g bn bs pv S:=by
  obtain⟨L,⟨bn,bs,pv,hD,_⟩,_⟩:=h.disk;exact⟨bn,bs,pv,hD⟩
 obtain⟨bn,bs,pv,hD⟩:=hgo;have hp:=hS.pend;have hcp:=iD (Zk5 g bn bs pv S W hD (by rw[hp];simp));clear hD;go_enter func18,ntmps18;go_wp2_with fail;refine hcp.out.mono ?_;rintro e W1 ⟨g1,L1,rfl,_,_,hb1⟩;have h1:=h.below hb1;clear hb1 hcp;go_wp2_with fail;refine (hnm.out W1).mono ?_;rintro e W2 ⟨rfl,rfl⟩;go_wp2_with fail;refine (Zjs h1 hS).mono ?_;rintro e W2 ⟨rb,v,rfl,h2,_⟩;replace h2:=iD h2;clear h1 h;go_wp2_with fail;obtain⟨L,⟨bn,bs,pv,hD,rfl⟩,hL⟩:=h2.out.disk;have hrm:=Zaj g bn bs pv S Gg W2 hD (hS.inv.asked (by omega)) (by decide);rw[(Zav hS).1,(Zav hS).2] at hrm;unfold Gg Z0 at hrm;refine hrm.mono ?_;rintro e W3 ⟨rfl,ht⟩;have h3:=h2.out.turned hD hL ht;clear hrm ht hD hL h2;replace h3:=iD h3;go_wp2_with fail;obtain⟨L,⟨bn,bs,pv,hD,rfl⟩,hL⟩:=h3.out.disk;refine (Zkb g bn bs pv S W3 hD hS.off hS.holds.len).mono ?_;rintro e W4 ⟨ob,rfl,hM4,hob,hb4⟩;have h4:=h3.out.below hb4;have hbz:=iD h4.size;clear hb4 h3 hD hL;replace h4:=iD h4;replace hM4:=iD hM4;go_wp2_with fail;generalize hW5:lI (W4.alloc _) (Obj.cells _ 32)=w5;have hb5:Below W4.heap.size W4 w5:=by rw[<-hW5];exact bL.alloc (by simp) _
 have hR5:Blk w5 (W4.heap.size+1) 32 (Xv Z2 W4.heap.size rb g a false):=by rw[<-hW5];exact Blk.new_at (cs:=Xv Z2 W4.heap.size rb g a false) (by simp)
 have hM5:Zg w5 W4.heap.size []:=by rw[<-hW5];exact (Zg.new_at rfl).alloc _
 have hO5:=hM4.out.below hb5 hM4.out.lt;have h5:=h4.out.below hb5;obtain⟨Lf,hDf,hLf⟩:=h4.out.disk;have hlf:=hDf.lt;have hDf5:=hDf.below hb5;have hs4:=h4.out.size;clear hW5 hb5 h4 hM4;refine (Zkc _ ob w5 hO5).mono ?_;rintro e w6 ⟨rfl,hb6⟩;have hR6:=hR5.below hb6 hR5.lt;have hM6:=hM5.below hb6 hM5.lt;have h6:=h5.below hb6;have hDf6:=iD (hDf5.below hb6);have hnf:W4.heap.size ∉ Lf:=fun hm=>by have:=hlf _ hm;omega
 replace hLf:=iD hLf;replace hnf:=iD hnf;clear hDf hDf5 hlf;clear hb6 hR5 hM5 h5 hO5;replace hR6:=iD hR6;replace hM6:=iD hM6;replace h6:=iD h6;go_wp2_with fail;haveI : Nonempty (Cls fun _=>True):=⟨⟨w6,trivial⟩⟩;refine Kk (fun w'=>∃ s:Cls (fun _=>True),w'=s.1) [([0,1,2,3],4),([],5),([],6)] [7,8,9,10] 11 [] (by kernel_rfl) (by kernel_rfl) (fun _ d _ _ _ h=>by cases d <;> exact h) ⟨⟨_,trivial⟩,rfl⟩ ?_;simp only[Jr,Zj,lE,lF,Yw,Ys];repeat (first | go_big_quiet_step (fail))
 refine lA ?_;intro K hK;go_simp;have hbd:=(lD w6.heap.size w6).drew;have hall:=Zao rb _ _ v [] _ w6.drew h6.out.ref.drew (h6.out.own.tab.stayB hbd) ⟨by simp,fun b hb=>absurd hb (by simp)⟩;refine hall.mono ?_;rintro e w7 ⟨V,rfl,ho,hb7⟩;obtain⟨VA,vc,rfl,_⟩:=ho.form;have hb7':=hbd.trans hb7;refine hK _ _ ⟨⟨_,trivial⟩,rfl⟩ ?_;clear hK hall;refine lA ?_;intro K hK;go_simp;refine (Zas [] _ _ w7 ho.tab ⟨by simp,fun b hb=>absurd hb (by simp)⟩ (fun b hb=>absurd hb (by simp)) (by simp)).mono ?_;rintro e w8 ⟨V,rfl,hrow,hb8⟩;obtain⟨HA,hc,rfl,_,_⟩:=Z6 hrow;have hb8':=hb7'.trans (hb8.mono hb7'.size);clear hrow ho hb7 hb8 hb7';refine hK _ _ ⟨⟨_,trivial⟩,rfl⟩ ?_;clear hK;refine lA ?_;intro K hK;go_simp;have hR8:=hR6.out.below hb8' hR6.out.lt;refine (Zju _ _ _ _ (hR8.cell 0)).mono ?_;rintro e w9 ⟨rfl,hb9⟩;have hb9':=hb8'.trans (hb9.mono hb8'.size);refine hK _ _ ⟨⟨_,trivial⟩,rfl⟩ ?_;clear hK hb9 hb8' hR8;repeat (first | go_big_quiet_step (fail))
 refine lA ?_;replace hb9':=iD hb9';go_wp2_with fail;go_returns;exact⟨_,_,_,_,rfl,hR6.out.below hb9'.out hR6.out.lt,hM6.out.below hb9'.out hM6.out.lt,h6.out.below hb9'.out,hbz.out _ (by omega),hbz.out _ (by omega),Lf,hDf6.out.below hb9'.out,hLf.out,hnf.out⟩
theorem Zox(a:Str)(ha:Yi a=true)(w:World):Calls lB 76 #[Z0 a] w fun e w'=>∃ r rb g by_,e=.returned (.tuple #[.pointer (some ⟨r,0,none⟩),.pointer (some ⟨g,0,none⟩)])/\RpM (fun _=>False) w (w.heap.size<=·) r rb g by_ a false false [] [] (DS.new 16777216) w':=by
 have hf:=iD (Zov w);unfold Z0;go_enter func76,ntmps76;go_wp2_with fail;refine hf.out.mono ?_;rintro e w1 ⟨g,rfl,hS⟩;have ho:=Zow hS (Live.new (by omega) (by omega)) a ha;unfold Z0 at ho;replace ho:=iD ho;clear hf hS;go_wp2_with fail;refine ho.out.mono ?_;rintro e w2 ⟨r,by_,rb,v,rfl,hR,hM,hF,hr,hby,hD⟩;have hfin:RpM (fun _=>False) w (w.heap.size<=·) r rb g by_ a false false [] [] (DS.new 16777216) w2 :=
  ⟨hF.bel,hF.size,⟨hr,hF.low,hby⟩,⟨Z2,hR,CsIs.nilV⟩,hM,⟨v,hF.ref,hF.own.frx (fun _ h=>h.elim)⟩,hD⟩
 replace hfin:=iD hfin;clear hR hM hF hr hby hD ho;go_wp2_with fail;go_returns;exact⟨r,rb,g,by_,rfl,hfin.out⟩
end
end Go.Proofs.YtfdimggmljkkbaaGreatDoor
