import Derived.Test.YtefjlobdifjogaaGreatDoorP18
open Array renaming getElem?_modify → lQ
open Go renaming wpQuiet_nil → lA, rounds_succ → lH, wp_loop_rounds → lN
open Go.Obj renaming cells → lO
open Go.Proofs.Tryz renaming prog → lB
open Go.RowKit.Below renaming refl → lC
open Go.Value renaming oneCell' → lI
open Go.World renaming alloc → lE, setRow → lP
open Iff renaming rfl → lJ
open List renaming mem_cons → lF, map_cons → lK, map_nil → lL, not_mem_nil → lM
open Nat renaming le_refl → lD, le_trans → lG
namespace Go.Proofs.YtefjlobdifjogaaGreatDoor
section
set_option maxRecDepth 100000
set_option maxHeartbeats 16000000
open Go.Lib renaming hid → iD
open Go.Proofs.Tryz
open Go.RowKit
def Uw(d:Str):Str:=111 :: Jc d
theorem Zlm{d:Str}(h:d.length=32):Y3 (Uw d)=true/\Uw d ≠ Zi/\(Uw d).length<=80:=by
 have hl:(Uw d).length=65:=by show (Jc d).length+1=65;rw[Gv,h]
 refine⟨by unfold Y3;simp[hl],fun e=>?_,by omega⟩;rw[e] at hl;exact absurd hl (by decide)
theorem Gl(a t:Str)(ha:Z6 a=true)(ht:t.length<=1000):(Yk (Ym a t)).length<=100000:=by
 rw[Z27];have h0:=Z98 ha;have h2:=Z26 t 0 (by omega);have h3:=G7 (s:=a) (by omega);have h4:=G7 (s:=[]) (by simp);have h5:=Kf 2 t.length (by omega);have h6:(Z3 0).length=1:=by rw[Xq (by decide)];rfl
 simp only[G8,List.length_append];simp only[List.length_nil] at h4;unfold chain;omega
theorem Zln{w:World}{base:Nat}{e:TypeId}{s:Nat}{v:Value}{n:Nat}{xs:List Value}(h:w.ownsRow base e s v n xs){b:Nat}(hb:v.ownBlock=some b):∃ cs,Blk w b e cs:=by
 rcases h with ⟨h1,⟨rfl,h3⟩ | ⟨g,cap,cur,rfl,h3,h4,h5,h6,h7,h8⟩⟩
 ·cases hb
 ·have e1:g=b:=by simpa[Value.ownBlock] using hb
  subst e1;exact⟨cur.toList,h4⟩
theorem Zas{w:World}{base n:Nat}{V:Value}{l:List POp}(h:w.ownsRow base 278 37 V n (Yg l))(hn:l.length=n):Zl w (OpB w) V l:=by
 rcases h with ⟨h1,⟨rfl,h3⟩ | ⟨g,cap,cur,rfl,h3,h4,h5,h6,h7,h8⟩⟩
 ·exact⟨none,0,by rw[hn,h3],by omega,fun hp=>by omega⟩
 ·have hB:Blk w g 278 cur.toList:=h4;refine⟨some ⟨g,0,none⟩,cap,by rw[hn],by omega,fun hp=>?_⟩;exact Rd.of_blk (ok:=OpB w) (xs:=Yg l) (r:=cur.toList.drop (n*37)) hB (by rw[<-h8,List.drop_zero,List.take_append_drop]) ⟨_,hB⟩ hp
theorem Ref.touched{w0:World}{base:Nat->Prop}{rb g:Nat}{v:Value}{S:DS}{T:Tab}{W W':World}{L M:List Nat}(h:Ref w0 base rb g v S T W)(hD:J3 W L g S)(hL:∀ i ∈ L,base i)(ht:Touch M W W')(hM:∀ i ∈ M,base i)(hd:∀ i ∈ L,i ∉ M)
  (hT:∀ i ∈ M,∀ t cs,Blk W i t cs->t ≠ 9/\t ≠ 267/\t ≠ 205/\t ≠ 59):Ref w0 base rb g v S T W' :=
 ⟨⟨h.bel.trans (ht.stay hM),fun i hi=>h.size i (lG ht.size hi),L,hD.touch ht hd (fun i hi _ hB=>(hT i hi _ _ hB).1 rfl),hL⟩,h.low,h.ref.touch ht (fun hm=>(hT _ hm _ _ h.ref).2.1 rfl),h.own.touch ht (fun i hi t cs hB=>(hT i hi t cs hB).2.2)⟩
theorem Zlo(ra a t n:Str)(hn:Z6 n=true)(ha:Z6 a=true)(ht:t.length<=1000)(h0:t ≠ []){w0:World}{base:Nat->Prop}{g rb:Nat}{S:DS}{v u:Value}{w:World}(h:Ref w0 base rb g v S [] w)(hS:Live S none)(hroom:1000000<=S.room)(r by_:Nat)(hR:Blk w r 47 (Y1 Z0 by_ rb g ra false))(hr:base r)
    (OA:Option Addr) (oc:Nat) (hO:Zl w (Fr w) (.slice OA t.length oc) (chain t)) (fb fc:Nat) (rest:List Value) (hF:Blk w fb 154 (Z5 a (.slice OA t.length oc)++rest)) (hC:Yx w (Fr w) u (Q5 n (idT a t))) (hky:∀ W,Stay base w0 W->Zm W) :
    Calls lB 111 #[.pointer (some ⟨r,0,none⟩),.slice (some ⟨fb,0,none⟩) 1 fc,u] w fun e w'=>e=.returned (.int .i64 0)/\KeepsR w w'/\∃ lb lc rest' by' V v' S',Blk w' r 47 (Y1 (.slice (some ⟨lb,0,none⟩) 1 lc) by' rb g ra false)/\Blk w' lb 154 (Z5 a V++rest')/\Zl w' (OpB w') V (chain t)/\Z8 w' by' [(.agg ((idT a t).map B).toArray,.int .i64 0)]/\Ref w0 base rb g v' S' (Xm n (idT a t)) w'/\Zu w' w.heap.size v' (Xm n (idT a t))/\base lb/\base by':=by
  have hid:=Q4 a t;have hT0:TFit ([]:Tab):=⟨by simp,fun b hb=>absurd hb (by simp)⟩;have hall:=iD (Z0m r Z0 by_ rb g ra false _ _ v [] _ w hR h.ref h.own.tab hT0);have hcf:=Z9j hn hid;have hce:=(Z52 (ds:=idT a t) hn).1;obtain⟨UA,uc,rfl,huc⟩:=hC.form;replace h:=iD h;replace hR:=iD hR;replace hO:=iD hO;replace hC:=iD hC;replace hF:=iD hF;replace hky:=iD hky;go_enter func111,ntmps111;go_wp2_with fail;refine hall.out.mono ?_;rintro e w1 ⟨V,rfl,ho,hb1⟩;obtain⟨VA,vc,rfl,_⟩:=ho.form;go_wp2_with fail;have hap:=Z9k (ds:=idT a t) hn hid _ _ _ _ w1 ho.tab (hC.out.stayB hb1);refine hap.mono ?_;rintro e w2 ⟨V,rfl,ho2,hb2⟩;rw[hce];obtain⟨VB,vd,rfl,_⟩:=ho2.form;have hb2':=hb1.trans (hb2.mono hb1.size);clear ho ho2 hap hall;replace hb2':=iD hb2';go_wp2_with fail;have hF2:=hF.out.below hb2'.out hF.out.lt;have l0:w2.cell? ⟨fb,0,none⟩=some Z0:=hF2.cell 0;have l1:w2.cell? ⟨fb,1,none⟩=some (.string ⟨a.toArray⟩):=hF2.cell 1;have l2:w2.cell? ⟨fb,2,none⟩=some (.string ⟨#[]⟩):=hF2.cell 2;have l3:w2.cell? ⟨fb,3,none⟩=some (.slice OA t.length oc):=hF2.cell 3;clear hF2;refine lN 2 ?_;rw[lH];go_wp2_with fail;generalize hW3:lE w2 (lO _ 154)=w3;have hb3:Below w2.heap.size w2 w3:=by rw[<-hW3];exact bL
  have hX3:Blk w3 w2.heap.size 154 (Z5 a (.slice OA t.length oc)):=by rw[<-hW3];exact Blk.new_at (cs:=Z5 a (.slice OA t.length oc)) rfl
  have hb3':=hb2'.out.trans (hb3.mono hb2'.out.size);clear hW3 l0 l1 l2 l3 hb3 hb2';have hen:=Z4d a t _ _ w3 (hO.out.stayB hb3') ha ht;refine hen.mono ?_;rintro e w4 ⟨V,rfl,hrow,hb4⟩;obtain⟨xs,hxs⟩:∃ xs,xs=Yk (Ym a t):=⟨_,rfl⟩;have hxl:xs.length<=100000:=by rw[hxs];exact Gl a t ha ht
  have hidx:Y6 xs=idT a t:=by rw[hxs];rfl
  rw[<-hxs] at hrow;replace hxs:=iD hxs;replace hidx:=iD hidx;obtain⟨EA,ec,rfl,hec,_⟩:=Za hrow;have hb4':=hb3'.trans (hb4.mono hb3'.size);have hX4:=hX3.below hb4 hX3.lt;have hrd4:Rd w4 (· < w4.heap.size) EA (xs.map B):=(K1 hrow).weak (fun b hb _=>hb);clear hrow hen hb4 hb3' hX3;have hR4:=hR.out.below hb4' hR.out.lt;have h4:=h.out.below hb4';replace hb4':=iD hb4';replace hX4:=iD hX4;replace hrd4:=iD hrd4;replace h4:=iD h4;go_wp2_with fail;obtain⟨PS,hPS⟩:∃ PS:World->Prop,∀ x,PS x ↔ Below w4.heap.size w4 x:=⟨_,fun _=>lJ⟩;have s0:∀ s:Cls PS,s.1.cell? ⟨r,3,none⟩=some (.pointer (some ⟨g,0,none⟩)):=fun s=>(hR4.below ((hPS _).1 s.2) hR4.lt).cell 3;have s1:Hid (∀ w',(∃ s:Cls PS,w'=s.1)->Rd w' (· < w4.heap.size) EA (xs.map B)):=iD (by rintro _ ⟨s,rfl⟩;exact hrd4.out.stay (fun b _ hlt=>((hPS _).1 s.2).block b hlt) (fun b h _=>h));have s4:PS w4.drew:=(hPS _).2 (lC _ _).drew;haveI : Nonempty (Cls PS):=⟨⟨_,s4⟩⟩;replace hPS:=iD hPS;replace hR4:=iD hR4;refine Yh (fun w'=>∃ s:Cls PS,w'=s.1) [([0,1,2,3,4,8,9],5),([],6)] [7] 10 [11] (by kernel_rfl) (by kernel_rfl) (fun _ d _ _ _ h=>by cases d <;> exact h) ⟨⟨_,s4⟩,rfl⟩ ?_;simp only[Y4,Z7,lK,lL,Zo,Zn];repeat (first | go_big_quiet_step (fail) | (refine Gu 57 9 (.tmp 49) rfl rfl 5 underlying57 underlying5 underlying9 EA xs ec rfl s1.out ?_;go_frame))
  refine lA ?_;intro K hK;go_simp;have hK4:Zm w4:=hky.out _ h4.out.bel;refine (Ql xs EA ec w4.drew (s1.out _ ⟨⟨_,s4⟩,rfl⟩) (by omega) (by omega) hK4).mono ?_;rintro e w5 ⟨rfl,hb5⟩;have hb45:=(lC w4.heap.size w4).drew.trans hb5;rw[hidx.out];refine hK _ _ ⟨⟨_,(hPS.out _).2 hb45⟩,rfl⟩ ?_;clear hK;refine lA ?_;intro K hK;go_simp;refine (Z69 (idT a t) hid w5).mono ?_;rintro e w6 ⟨rfl,hb6⟩;have hb46:=hb45.trans (hb6.mono hb45.size);refine hK _ _ ⟨⟨_,(hPS.out _).2 hb46⟩,rfl⟩ ?_;clear hK hb45 hb5 hb6;obtain⟨hx,hhx⟩:∃ hx,hx=Jc (idT a t):=⟨_,rfl⟩;have hxl2:hx.length=64:=by rw[hhx,Gv,hid]
  have hsz:(⟨hx.toArray⟩:ByteArray).size=64:=(Jw hx).trans hxl2;rw[<-hhx];replace hhx:=iD hhx;replace hxl2:=iD hxl2;repeat (first | go_big_quiet_step (fail))
  refine lA ?_;have hcat:((⟨#[111]⟩:ByteArray)++⟨hx.toArray⟩)=⟨(Uw (idT a t)).toArray⟩:=by
    have e:Uw (idT a t)=[111]++hx:=by rw[hhx.out];rfl
    rw[e];apply ByteArray.ext;simp
  obtain⟨hn1,hn2,hn3⟩:=Zlm hid;have hfst:=Zil hS (s:=Uw (idT a t)) (t:=xs) hn1 hn2 (by omega);have h6:=h4.out.below hb46;obtain⟨L,⟨bn,bs,pv,hD,hLf⟩,hLb⟩:=h6.disk;have hwr:=Z92 g bn bs pv S (Uw (idT a t)) xs w6 hD hfst.asked (by omega) (by omega);unfold Z1 at hwr;rw[<-hcat,hfst.e] at hwr;have hb6':=hb4'.out.trans (hb46.mono hb4'.out.size);have hk6:=KeepsR.below hb6';have hR6:=hR.out.below hb6' hR.out.lt;clear s0 s1 s4 hcat hsz;replace hfst:=iD hfst;replace hk6:=iD hk6;replace hR6:=iD hR6;replace hD:=iD hD;replace h6:=iD h6;replace hLf:=iD hLf;replace hLb:=iD hLb;go_wp2_with fail;refine hwr.mono ?_;rintro e w7 ⟨rfl,ht7⟩;have h7:=h6.out.turned hD.out (fun i hi=>hLb.out i (by rw[hLf.out];exact hi)) ht7;have hk67:KeepsR w6 w7:=KeepsR.disk hD.out ht7.1;have hk7:=hk6.out.trans hk67;have hsz7:w.heap.size<=w7.heap.size:=lG hb6'.size ht7.1.size;have hR7:Blk w7 r 47 (Y1 Z0 by_ rb g ra false):=hR6.out.touch ht7.1 (hD.out.tag hR6.out (by decide) (by decide));clear hwr hD h6 hLf hLb hR6 hk6 hk67 ht7;replace h7:=iD h7;replace hk7:=iD hk7;replace hR7:=iD hR7;go_wp2_with fail;have hmm:=@run_makeMap lB;rw[lH];go_wp2_with fail;generalize hW8:lE (w7.alloc _) (lO _ 43)=w8;have hb8:Below w7.heap.size w7 w8:=by rw[<-hW8];exact bL.alloc (by simp) _
  have hK8:Blk w8 (w7.heap.size+1) 43 [Z0,.map (some w7.heap.size)]:=by rw[<-hW8];exact Blk.new_at (cs:=[Z0,.map (some w7.heap.size)]) (by simp)
  have hM8:Z8 w8 w7.heap.size []:=by rw[<-hW8];exact (Z8.new_at rfl).alloc _
  have hR8:=hR7.out.below hb8 hR7.out.lt;have h8:=h7.out.below hb8;have hk8:=hk7.out.trans (KeepsR.below hb8);have hs7:=iD h7.out.size;obtain⟨L7,hD7,hL7⟩:=h7.out.disk;have hlt7:=hD7.lt;have hD8:=hD7.below hb8;clear hD7;clear hW8 hmm hR7 hk7 h7;obtain⟨kb,hkb⟩:∃ kb,kb=w7.heap.size+1:=⟨_,rfl⟩;obtain⟨mb,hmb⟩:∃ mb,mb=w7.heap.size:=⟨_,rfl⟩;rw[<-hkb,<-hmb] at hK8 ⊢;rw[<-hmb] at hM8;have hmb1:base mb:=hs7.out _ (by omega);have hkb1:base kb:=hs7.out _ (by omega);have hsm:Hid (∀ i,mb<=i->base i):=iD (fun i hi=>hs7.out i (by omega));clear hs7;have hmw:w.heap.size<=mb:=by omega
  have hkm:mb<kb:=by omega
  have hlt7':∀ i ∈ L7,i<mb:=fun i hi=>by rw[hmb];exact hlt7 i hi
  clear hlt7;replace hlt7':=iD hlt7';replace hL7:=iD hL7;have hpn:=Z2o r by_ rb g ra false _ _ v _ w8 hR8 h8.ref h8.own.tab;clear hkb hmb hb8;refine hpn.mono ?_;rintro e w9 ⟨rfl,hb9⟩;have hR9:=hR8.below hb9 hR8.lt;have hK9:=hK8.below hb9 hK8.lt;have hM9:=hM8.below hb9 hM8.lt;have h9:=h8.below hb9;have hk9:=hk8.trans (KeepsR.below hb9);have hF9:=hk9.blk _ _ _ hF.out (by decide) (by decide) (by decide) (by decide);have hD9:=hD8.below hb9;clear hpn hb9 hR8 hK8 hM8 h8 hk8 hD8;replace hD9:=iD hD9;replace hR9:=iD hR9;replace hK9:=iD hK9;replace hM9:=iD hM9;replace h9:=iD h9;replace hk9:=iD hk9;replace hF9:=iD hF9;go_wp2_with (at_builtin;refine Yt _ rfl (.tmp 59) (.tmp 60) 40 rfl w9.heap.size 154 _ 4 80 underlying40 Z4y Z0 0 [] rfl ⟨rfl,.inl ⟨rfl,rfl⟩⟩ (fun _=>True) (some ⟨fb,0,none⟩) 1 fc (Z5 a (.slice OA t.length oc)) rfl rfl (Rd.of_blk (cs:=Z5 a (.slice OA t.length oc)++rest) (r:=rest) hF9.out rfl trivial) (by simp[Z5,lI]) (by unfold maxLen;omega) (by omega) (lD _) ?_;intro v' w10 hrow hg hv';obtain⟨lb,lc,rest1,rfl,hlb,hL10⟩:=Ui hrow;replace hL10:=iD hL10;replace hg:=iD hg;clear hrow hv';go_frame);have hb10:Below w9.heap.size w9 w10:=Yo (v:=Z0) (n:=0) (xs:=[]) (e:=154) (size:=4) ⟨rfl,.inl ⟨rfl,rfl⟩⟩ hg.out (lD _);have hR10:=hR9.out.below hb10 hR9.out.lt;have hK10:=hK9.out.below hb10 hK9.out.lt;have hM10:=hM9.out.below hb10 hM9.out.lt;have h10:=h9.out.below hb10;have hk10:=hk9.out.trans (KeepsR.below hb10);have hs9:=iD h9.out.size;have hD10:=iD (hD9.out.below hb10);have hlb1:base lb:=hs9.out _ (by omega);have l0:w10.cell? ⟨lb,0,none⟩=some Z0:=hL10.out.cell 0;have l1:w10.cell? ⟨lb,1,none⟩=some (.string ⟨a.toArray⟩):=hL10.out.cell 1;have l2:w10.cell? ⟨lb,2,none⟩=some (.string ⟨#[]⟩):=hL10.out.cell 2;have l3:w10.cell? ⟨lb,3,none⟩=some (.slice OA t.length oc):=hL10.out.cell 3;clear hR9 hK9 hM9 h9 hk9 hF9 hg hb10 hlb;replace hR10:=iD hR10;replace hK10:=iD hK10;replace hM10:=iD hM10;replace h10:=iD h10;replace hk10:=iD hk10;refine lN 2 ?_;rw[lH];go_wp2_with fail;generalize hW11:lE w10 (lO _ 154)=w11;have hb11:Below w10.heap.size w10 w11:=by rw[<-hW11];exact bL
  have hX11:Blk w11 w10.heap.size 154 (Z5 a (.slice OA t.length oc)):=by rw[<-hW11];exact Blk.new_at (cs:=Z5 a (.slice OA t.length oc)) rfl
  have hR11:=hR10.out.below hb11 hR10.out.lt;have hK11:=hK10.out.below hb11 hK10.out.lt;have hM11:=hM10.out.below hb11 hM10.out.lt;have h11:=h10.out.below hb11;have hk11:=hk10.out.trans (KeepsR.below hb11);have hD11:=hD10.out.below hb11;have hO11:=hk11.ops hO.out;have hky11:Zm w11:=hky.out _ h11.bel;have hs10:=iD h10.out.size;clear hW11 l0 l1 l2 l3 hb11 hR10 hK10 hM10 h10 hk10;obtain⟨xb,hxb⟩:∃ xb,xb=w10.heap.size:=⟨_,rfl⟩;rw[<-hxb] at hX11 ⊢;have hxb1:base xb:=hs10.out _ (by omega);have hidf:=Z4l a t _ _ w11 hO11 ha ht hky11;refine hidf.mono ?_;rintro e w12 ⟨rfl,hb12⟩;have hR12:=hR11.below hb12 hR11.lt;have hK12:=hK11.below hb12 hK11.lt;have hM12:=hM11.below hb12 hM11.lt;have hX12:=hX11.below hb12 hX11.lt;have h12:=h11.below hb12;have hk12:=hk11.trans (KeepsR.below hb12);have hD12:=hD11.below hb12;clear hD11 hb12 hR11 hK11 hM11 hX11 h11 hk11 hky11 hO11 hidf;obtain⟨ds,hds⟩:∃ ds,ds=idT a t:=⟨_,rfl⟩;have hdl:ds.length=32:=by rw[hds];exact hid
  rw[<-hds];replace hds:=iD hds;replace hdl:=iD hdl;have hO12:=hk12.ops hO.out;have hxb12:=hX12.lt;replace hR12:=iD hR12;replace hK12:=iD hK12;replace hM12:=iD hM12;replace hX12:=iD hX12;replace h12:=iD h12;replace hk12:=iD hk12;replace hD12:=iD hD12;replace hO12:=iD hO12;replace hxb:=iD hxb;go_wp2_with (first
    | (refine Zd rfl 59 (.tmp 17) (.tmp 70) rfl w12.heap.size (ds.map B) rfl rfl 59 Z2 (Blk.new_at rfl) (by simp[hdl.out,Z2]) (Zg hdl.out) (Y5 _) ?_
       generalize hw1:lP _ w12.heap.size (ds.map B).toArray=w13;have hD13:Blk w13 w12.heap.size 59 (ds.map B):=by
         rw[<-hw1];exact (Blk.new_at (w:=w12) (t:=59) (cs:=Z2) rfl).setRow_same (ds.map B)
       have hb13:Below w12.heap.size w12 w13:=by
         rw[<-hw1];exact below_setRow ((lC w12.heap.size w12).alloc (lD _) (.cells Z2.toArray 59)) (lD _) (ds.map B).toArray
       clear hw1;replace hD13:=iD hD13;replace hb13:=iD hb13;go_frame)
    | fail)
  have hb13':=hb13.out;have hX13:=hX12.out.below hb13' hX12.out.lt;have hR13:=hR12.out.below hb13' hR12.out.lt;have hK13:=hK12.out.below hb13' hK12.out.lt;have hM13:=hM12.out.below hb13' hM12.out.lt;have h13:=h12.out.below hb13';have hk13:=hk12.out.trans (KeepsR.below hb13');have hdk13:=hD12.out.below hb13';have hO13:=hO12.out.stayB hb13';obtain⟨db,hdb⟩:∃ db,db=w12.heap.size:=⟨_,rfl⟩;have hD13':=hD13.out;rw[<-hdb] at hD13' ⊢;clear hX12 hR12 hK12 hM12 h12 hk12 hD12 hO12 hb13 hb13' hdb hD13;obtain⟨PS,hPS⟩:∃ PS:World->Prop,∀ x,PS x ↔ Blk x db 59 (ds.map B)/\Blk x xb 154 (Z5 a (.slice OA t.length oc)):=⟨_,fun _=>lJ⟩;have s1:Hid (∀ w',(∃ s:Cls PS,w'=s.1)->Blk w' db 59 (ds.map B)):=iD (by rintro _ ⟨s,rfl⟩;exact ((hPS _).1 s.2).1);have s2:Hid (∀ w',(∃ s:Cls PS,w'=s.1)->Blk w' xb 154 (Z5 a (.slice OA t.length oc))):=iD (by rintro _ ⟨s,rfl⟩;exact ((hPS _).1 s.2).2);have s4:PS w13.drew:=(hPS _).2 ⟨hD13'.drew,hX13.drew⟩;haveI : Nonempty (Cls PS):=⟨⟨_,s4⟩⟩;replace hPS:=iD hPS;refine Yh (fun w'=>∃ s:Cls PS,w'=s.1) [([0,1],2)] [] 3 [] (by kernel_rfl) (by kernel_rfl) (fun _ d _ _ _ h=>by cases d <;> exact h) ⟨⟨_,s4⟩,rfl⟩ ?_;simp only[Y4,Z7,lK,lL,Zo,Zn];repeat (first
    | (refine Yq 59 (.tmp 17) rfl rfl db 0 rfl 59 (ds.map B) (ds.map B) [] s1.out (by simp) _ underlying59 rfl (Zg hdl.out) ?_;go_frame)
    | (refine Yq 154 (.tmp 16) rfl rfl xb 0 rfl 154 (Z5 a (.slice OA t.length oc)) (Z5 a (.slice OA t.length oc)) [] s2.out (by simp) _ underlying154 rfl (Ky _ _) ?_;go_frame)
    | go_big_quiet_step (fail))
  refine lA ?_;intro K hK;go_simp;have hof:=Zjc a t _ _ w13.drew (hO13.stayB (lC _ _).drew) ht h0;refine hof.mono ?_;rintro e w14 ⟨V,rfl,hrow,hb14⟩;obtain⟨VA,vc',rfl,_,_⟩:=Za hrow;have hb14':Below w13.heap.size w13 w14:=(lC _ _).drew.trans hb14;have hdb14:=hD13'.below hb14' hD13'.lt;have hX14:=hX13.below hb14' hX13.lt;have hR14:=hR13.below hb14' hR13.lt;have hK14:=hK13.below hb14' hK13.lt;have hM14:=hM13.below hb14' hM13.lt;have h14:=h13.below hb14';have hk14:=hk13.trans (KeepsR.below hb14');have hD14:=hdk13.below hb14';refine hK _ _ ⟨⟨_,(hPS.out _).2 ⟨hdb14,hX14⟩⟩,rfl⟩ ?_;clear hK;refine lA ?_;clear hof hb14 hb14' hdb14 hX14 hX13 hR13 hK13 hM13 h13 hk13 hdk13 hO13 hD13' s1 s2 s4;have hka:=Z9i ds a hdl.out VA t.length vc' kb mb w14 hK14 hM14;replace hK14:=iD hK14;replace hM14:=iD hM14;replace hR14:=iD hR14;replace h14:=iD h14;replace hk14:=iD hk14;replace hD14:=iD hD14;replace hrow:=iD hrow;go_wp2_with fail;refine hka.mono ?_;rintro e w15 ⟨lb',lc',rest',rfl,hK15,hL15,hM15,hlb',ht15⟩;have hrk:r ≠ kb:=hR14.out.ne_ hK14.out (by decide);have hrm:r ≠ mb:=hM14.out.ne_blk hR14.out;have hR15:=hR14.out.touch ht15 (by simp[hrk,hrm]);have hk15:KeepsR w w15:=⟨fun k t' cs hB a1 a2 a3 a4=>(hk14.out.blk k t' cs hB a1 a2 a3 a4).touch ht15 (by have:=hB.lt;simp;omega),fun k o ho hm=>Qo ht15 (hk14.out.mark k o ho hm) (by have:=Qc ho;simp;omega)⟩;have hD15:J3 w15 L7 g _:=hD14.out.touch ht15 (fun i hi=>by have:=hlt7'.out i hi;simp;omega) (fun i hi cs hB=>by
    simp only[lF,lM,or_false] at hi;rcases hi with rfl | rfl
    · exact absurd (hB.unique hK14.out) (by decide)
    · exact hM14.out.ne_blk hB rfl)
  have h15:Ref w0 base rb g v _ [] w15:=h14.out.touched hD14.out hL7.out ht15 (fun i hi=>by
    simp only[lF,lM,or_false] at hi;rcases hi with rfl | rfl
    · exact hkb1
    · exact hmb1) (fun i hi=>by have:=hlt7'.out i hi;simp;omega) (fun i hi t' cs hB=>by
    simp only[lF,lM,or_false] at hi;rcases hi with rfl | rfl
    · rw[hB.unique hK14.out];decide
    · exact absurd rfl (hM14.out.ne_blk hB))
  have hO15:=Zas (Zj hrow.out ht15 (fun b hb hm=>by
    simp only[lF,lM,or_false] at hm;rcases hm with rfl | rfl
    · exact Ys hrow.out hK14.out (by decide) hb.symm
    · obtain⟨cs,hB⟩:=Zln hrow.out hb
      exact hM14.out.ne_blk hB rfl)) (Jq t 0)
  have hlb1':base lb':=h14.out.size _ hlb';clear hka hR14 hk14 hD14 h14 hrow hlb' ht15 hK14 hM14;replace hR15:=iD hR15;replace hk15:=iD hk15;replace hD15:=iD hD15;replace h15:=iD h15;replace hO15:=iD hO15;replace hL15:=iD hL15;go_wp2_with fail;have r2:w15.cell? ⟨r,2,none⟩=some (.pointer (some ⟨rb,0,none⟩)):=hR15.out.cell 2;rw[lH];go_wp2_with fail;obtain⟨bn',bs',pv',hDa,hLe⟩:=hD15.out;have hfs:=hfst.out;have hC':Yx w (Fr w) (.slice UA 1 uc) (Q5 n ds):=by rw[hds.out];exact hC.out
  have hdo:=Zjh hn hdl.out h15.out hDa (fun i hi=>hL7.out i (by rw[hLe];exact hi)) hfs.inv hfs.off hfs.fuse hfs.next hfs.len (by rw[hfs.sum,hfs.room];omega) (hk15.out.chs hC');refine hdo.mono ?_;rintro e w16 ⟨rfl,hkp,ht16,v',S',h16,how⟩;have how16:=iD (how.lower (show w.heap.size<=w15.heap.size by have:=hK15.lt;omega));clear how;have hkpR:=KeepsR.names hDa h15.out.ref ht16 hkp;have hk16:=hk15.out.trans hkpR;have hni:∀ i t' cs,Blk w15 i t' cs->t' ≠ 267->t' ≠ 105->t' ≠ 314->i ∉ rb :: Zf g bn' bs' pv':=fun i t' cs hB a1 a2 a3 hm=>by
    rcases lF.1 hm with rfl | hm
    · exact a1 (hB.unique h15.out.ref)
    · exact hDa.tag hB a2 a3 hm
  have hR16:=hR15.out.touch ht16 (hni _ _ _ hR15.out (by decide) (by decide) (by decide));have hK16:=hK15.touch ht16 (hni _ _ _ hK15 (by decide) (by decide) (by decide));have hL16:=hL15.out.touch ht16 (hni _ _ _ hL15.out (by decide) (by decide) (by decide));have hM16:=hM15.touch ht16 (fun hm=>by
    rcases lF.1 hm with he | hm
    · exact hM15.ne_blk h15.out.ref he.symm
    · have:=hlt7'.out _ (by rw[hLe];exact hm);omega)
  have hO16:=(KeepsR.opb hkpR hO15.out);clear hdo hfs hni hC' hDa hLe ht16 hkp hkpR hR15 hK15 hL15 hM15 hO15 hD15 h15 hk15 r2;replace hk16:=iD hk16;replace hR16:=iD hR16;replace hL16:=iD hL16;replace hM16:=iD hM16;replace hO16:=iD hO16;replace h16:=iD h16;have k0:w16.cell? ⟨kb,0,none⟩=some (.slice (some ⟨lb',0,none⟩) 1 lc'):=hK16.cell 0;have k1:w16.cell? ⟨kb,1,none⟩=some (.map (some mb)):=hK16.cell 1;replace hK16:=iD hK16;have hkn:(lB.info? 43).map (·.size)=some 2:=by kernel_rfl
  replace hkn:=iD hkn;go_wp2_with (first | (refine Z0z rfl 43 (.tmp 89) (.tmp 87) rfl r 0 [.slice (some ⟨lb',0,none⟩) 1 lc',.map (some mb)] rfl rfl 47 (Y1 Z0 by_ rb g ra false) hR16.out (by simp) hkn.out (by simp[lI]) ?_) | fail);have hsp:splice (Y1 Z0 by_ rb g ra false) 0 [.slice (some ⟨lb',0,none⟩) 1 lc',.map (some mb)]=Y1 (.slice (some ⟨lb',0,none⟩) 1 lc') mb rb g ra false:=rfl;rw[hsp];have ht17:Touch [r] w16 (w16.setRow r (Y1 (.slice (some ⟨lb',0,none⟩) 1 lc') mb rb g ra false).toArray):=Touch.setRow (by simp) _;have hR17:Blk (w16.setRow r (Y1 (.slice (some ⟨lb',0,none⟩) 1 lc') mb rb g ra false).toArray) r 47 _:=hR16.out.setRow_same (Y1 (.slice (some ⟨lb',0,none⟩) 1 lc') mb rb g ra false);generalize w16.setRow r (Y1 (.slice (some ⟨lb',0,none⟩) 1 lc') mb rb g ra false).toArray=w17 at ht17 hR17 ⊢;obtain⟨L16,hD16,hLb16⟩:=h16.out.disk;have hr1:=hR16.out;have h17:=h16.out.touched hD16 hLb16 ht17 (by simpa using hr) (fun i hi hm=>by
    obtain rfl:i=r:=by simpa using hm
    exact hD16.tag hr1 (by decide) (by decide) hi) (fun i hi t' cs hB=>by
    obtain rfl:i=r:=by simpa using hi
    rw[hB.unique hr1];decide)
  have hkk:KeepsR w16 w17:=KeepsR.one hr1 ht17 rfl;have hL17:=hkk.blk _ _ _ hL16.out (by decide) (by decide) (by decide) (by decide);have hM17:=hM16.out.touch ht17 (by simp;exact fun e=>hrm e.symm);have hO17:=hkk.opb hO16.out;have how17:=iD (how16.out.touch ht17 (fun i hi t' cs hB=>by
    obtain rfl:i=r:=by simpa using hi
    rw[hB.unique hr1];decide))
  have hk17:=hk16.out.trans hkk;clear k0 k1 hr1;replace hL17:=iD hL17;replace hM17:=iD hM17;replace hO17:=iD hO17;replace hk17:=iD hk17;replace hR17:=iD hR17;replace h17:=iD h17;clear hsp ht17 hD16 hLb16 hkk;go_wp2_with fail;go_returns;rw[<-hds.out];exact⟨rfl,hk17.out,lb',lc',rest',mb,_,v',S',hR17.out,hL17.out,hO17.out,hM17.out,h17.out,how17.out,hlb1',hmb1⟩
end
section
set_option maxRecDepth 100000
set_option maxHeartbeats 16000000
open Go.Lib renaming hid → iD
open Go.Proofs.Tryz
open Go.RowKit
theorem Zlp(A:Option Addr)(c:Nat)(f:Value)(w:World):Calls lB 178 #[.slice A 0 c,f] w fun e w'=>e=.returned (.int .i64 (-1))/\Below w.heap.size w w':=by
 go_enter func178,ntmps178;go_wp2_with fail;refine lN 1 ?_;rw[lH];go_wp2_with fail;go_returns;exact⟨rfl,lC _ _⟩
theorem Zlq(A:Option Addr)(c:Nat)(f:Value)(w:World):Calls lB 102 #[.slice A 0 c,f] w fun e w'=>e=.returned (.bool false)/\Below w.heap.size w w':=by
 go_enter func102,ntmps102;go_wp2_with fail;refine (Zlp _ _ _ _).mono ?_;rintro e w2 ⟨rfl,hb2⟩;go_wp2_with fail;go_returns;exact⟨rfl,hb2⟩
theorem Zlr{W:World}{ok:Nat->Prop}{hb:Nat}{ds:Str}(hH:Blk W hb 59 (ds.map B))(hk:ok hb):Ze W ok (.slice (some ⟨hb,0,none⟩) 1 1) [ds] :=
 ⟨_,1,rfl,lD _,Rd.of_blk (r:=[]) hH (by simp[Zv]) hk⟩
theorem Zls{W:World}{ok:Nat->Prop}{cb hb:Nat}{n ds:Str}(hC:Blk W cb 177 [Z1 n,Z0,.slice (some ⟨hb,0,none⟩) 1 1])(hH:Blk W hb 59 (ds.map B))(h1:ok cb)(h2:ok hb) :
  Yx W ok (.slice (some ⟨cb,0,none⟩) 1 1) (Q5 n ds):=by
 refine⟨_,1,[(Z0,.slice (some ⟨hb,0,none⟩) 1 1)],rfl,rfl,lD _,Rd.of_blk (r:=[]) hC rfl h1,fun k b u e1 e2=>?_⟩
 match k,e1,e2 with
 | 0,e1,e2 =>
  simp only[List.getElem?_cons_zero,Option.some.injEq] at e1 e2;subst e1;subst e2;exact⟨Ze.nil,Zlr hH h2⟩
 | k+1,e1,_=>simp at e1
structure OneSt (w0:World) (base:Nat->Prop) (ob g rb r:Nat) (ra a t n:Str) (w:World):Prop where
 st:∃ lb lc rest by' V v' S',Blk w r 47 (Y1 (.slice (some ⟨lb,0,none⟩) 1 lc) by' rb g ra false)/\Blk w lb 154 (Z5 a V++rest)/\Zl w (OpB w) V (chain t)/\Z8 w by' [(.agg ((idT a t).map B).toArray,.int .i64 0)]/\Ref w0 base rb g v' S' (Xm n (idT a t)) w/\Zu w ob v' (Xm n (idT a t))/\base lb/\base by'
theorem OneSt.touch{w0:World}{base:Nat->Prop}{ob g rb r:Nat}{ra a t n:Str}{w w':World}{M:List Nat}(h:OneSt w0 base ob g rb r ra a t n w)(ht:Touch M w w')(hM:∀ i ∈ M,base i/\i<ob/\∃ ty cs,Blk w i ty cs/\ty ≠ 47/\ty ≠ 154/\ty ≠ 278/\ty ≠ 267/\ty ≠ 105/\ty ≠ 314/\ty ≠ 9):OneSt w0 base ob g rb r ra a t n w':=by
 obtain⟨lb,lc,rest,by',V,v',S',h1,h2,h3,h4,h5,h6,h7,h8⟩:=h.st;have key:∀ i ty cs,Blk w i ty cs->(ty=47 ∨ ty=154 ∨ ty=278 ∨ ty=267 ∨ ty=9)->i ∉ M:=fun i ty cs hB hty hm=>by
  obtain⟨_,_,ty',cs',hB',k1,k2,k3,k4,k5,k6,k7⟩:=hM i hm;have e:=hB.unique hB';subst e;rcases hty with e | e | e | e | e
  ·exact k1 e
  ·exact k2 e
  ·exact k3 e
  ·exact k4 e
  ·exact k7 e
 have how:=h6.touchLow ht (fun i hi=>(hM i hi).2.1);obtain⟨L,hD,hL⟩:=h5.disk;have hdisk:∀ i ∈ L,i ∉ M:=fun i hi hm=>by
  obtain⟨_,_,ty',cs',hB',k1,k2,k3,k4,k5,k6,k7⟩:=hM i hm;exact hD.tag hB' k5 k6 hi
 refine⟨lb,lc,rest,by',V,v',S',h1.touch ht (key _ _ _ h1 (.inl rfl)),h2.touch ht (key _ _ _ h2 (.inr (.inl rfl))),h3.touchB ht (fun i hi cs hB=>key _ _ _ hB (.inr (.inr (.inl rfl))) hi),h4.touch ht (fun hm=>?_),⟨⟨h5.bel.trans (ht.stay (fun i hi=>(hM i hi).1)),fun i hi=>h5.size i (lG ht.size hi),L,hD.touch ht hdisk (fun i hi cs hB=>key _ _ _ hB (.inr (.inr (.inr (.inr rfl)))) hi),hL⟩,h5.low,h5.ref.touch ht (key _ _ _ h5.ref (.inr (.inr (.inr (.inl rfl))))),?_⟩,how,h7,h8⟩
 ·obtain⟨_,_,ty',cs',hB',_⟩:=hM _ hm;exact h4.ne_blk hB' rfl
 ·exact how.lower (Nat.zero_le _)
theorem OneSt.lower{w0:World}{base:Nat->Prop}{ob ob' g rb r:Nat}{ra a t n:Str}{w:World}(h:OneSt w0 base ob g rb r ra a t n w)(h2:ob'<=ob):OneSt w0 base ob' g rb r ra a t n w:=by
 obtain⟨lb,lc,rest,by',V,v',S',k1,k2,k3,k4,k5,k6,k7,k8⟩:=h.st;exact⟨lb,lc,rest,by',V,v',S',k1,k2,k3,k4,k5,k6.lower h2,k7,k8⟩
theorem Zat{w0:World}{base:Nat->Prop}{g rb:Nat}{S:DS}{v u:Value}{w:World}(ra a t n:Str)(hn:Z6 n=true)(ha:Z6 a=true)(ht:t.length<=1000)(h0:t ≠ [])(h:Ref w0 base rb g v S [] w)(hS:Live S none)(hroom:1000000<=S.room)(r by_:Nat)(hR:Blk w r 47 (Y1 Z0 by_ rb g ra false))(hr:base r)
  (OA:Option Addr) (oc:Nat) (hO:Zl w (Fr w) (.slice OA t.length oc) (chain t)) (fb fc:Nat) (rest:List Value) (hF:Blk w fb 154 (Z5 a (.slice OA t.length oc)++rest)) (hC:Yx w (Fr w) u (Q5 n (idT a t))) (hky:∀ W,Stay base w0 W->Zm W) :
  Calls lB 111 #[.pointer (some ⟨r,0,none⟩),.slice (some ⟨fb,0,none⟩) 1 fc,u] w fun e w'=>e=.returned (.int .i64 0)/\KeepsR w w'/\OneSt w0 base w.heap.size g rb r ra a t n w' :=
 (Zlo ra a t n hn ha ht h0 h hS hroom r by_ hR hr OA oc hO fb fc rest hF hC hky).mono (by
  rintro e w' ⟨he,hk,hs⟩;exact⟨he,hk,⟨hs⟩⟩)
theorem Zlt{w0:World}{base:Nat->Prop}{g rb:Nat}{S:DS}{v:Value}{w:World}(a t n:Str)(hn:Z6 n=true)(ha:Z6 a=true)(ht:t.length<=1000)(h0:t ≠ [])(h:Ref w0 base rb g v S [] w)(hS:Live S none)(hroom:1000000<=S.room)(r by_:Nat)(hR:Blk w r 47 (Y1 Z0 by_ rb g a false))(hr:base r)
    (OA:Option Addr) (oc:Nat) (hO:Zl w (Fr w) (.slice OA t.length oc) (chain t)) (hky:∀ W,Stay base w0 W->Zm W) :
    Calls lB 94 #[.pointer (some ⟨r,0,none⟩),Z1 n,Z0,.agg (Z5 a (.slice OA t.length oc)).toArray] w fun e w'=>e=.returned (.tuple #[.agg ((idT a t).map B).toArray,.int .i64 0])/\KeepsR w w'/\OneSt w0 base w.heap.size g rb r a a t n w':=by
  have hbz:=iD h.size;unfold Z1;generalize hW1:(w.alloc (.cells (Z5 a (.slice OA t.length oc)).toArray 154))=w1;have hb1:Below w.heap.size w w1:=by rw[<-hW1];exact bL
  have hX1:Blk w1 w.heap.size 154 (Z5 a (.slice OA t.length oc)):=by rw[<-hW1];exact Blk.new_at rfl
  have hR1:=hR.below hb1 hR.lt;have h1:=h.below hb1;have hO1:=(KeepsR.below hb1).ops hO;have hk1:=KeepsR.below hb1;obtain⟨xb,hxb⟩:∃ xb,xb=w.heap.size:=⟨_,rfl⟩;rw[<-hxb] at hX1;replace hxb:=iD hxb;go_enter func94,ntmps94;go_wp2_with (first
    | (refine Zy rfl 154 (.tmp 7) rfl w.heap.size rfl 154 (Z5 a (.slice OA t.length oc)) (by rw[<-hxb.out];exact hX1.alloc _) _ underlying154 rfl (Ky _ _) ?_
       generalize hW2:lE w1 _=w2;go_frame)
    | fail)
  have hb2:Below w1.heap.size w1 w2:=by rw[<-hW2];exact bL
  have hZ2:Blk w2 w1.heap.size 59 Z2:=by rw[<-hW2];exact Blk.new_at (cs:=Z2) rfl
  have hX2:=hX1.below hb2 hX1.lt;have hR2:=hR1.below hb2 hR1.lt;have h2:=h1.below hb2;have hO2:=(KeepsR.below hb2).ops hO1;have hk2:=hk1.trans (KeepsR.below hb2);obtain⟨zb,hzb⟩:∃ zb,zb=w1.heap.size:=⟨_,rfl⟩;have hxb':=hxb.out;have hwz:w.heap.size<=zb:=by have:=hb1.size;omega
  have hbs:=h.size;rw[<-hzb] at hZ2 ⊢;rw[<-hxb'];clear hW1 hW2 hb2 hX1 hR1 h1 hO1 hk1 hb1 hzb hxb' hR h;refine (Z4l a t _ _ w2 hO2 ha ht (hky _ h2.bel)).mono ?_;rintro e w3 ⟨rfl,hb3⟩;have hZ3:=hZ2.below hb3 hZ2.lt;have hX3:=hX2.below hb3 hX2.lt;have hR3:=hR2.below hb3 hR2.lt;have h3:=h2.below hb3;have hO3:=(KeepsR.below hb3).ops hO2;have hk3:=hk2.trans (KeepsR.below hb3);clear hb3 hZ2 hX2 hR2 h2 hO2 hk2;obtain⟨ds,hds⟩:∃ ds,ds=idT a t:=⟨_,rfl⟩;have hdl:ds.length=32:=by rw[hds];exact Q4 a t
  rw[<-hds];replace hds:=iD hds;replace hdl:=iD hdl;replace hZ3:=iD hZ3;replace hX3:=iD hX3;replace hR3:=iD hR3;replace h3:=iD h3;replace hO3:=iD hO3;replace hk3:=iD hk3;replace hky:=iD hky;replace hS:=iD hS;replace hO:=iD hO;go_wp2_with (first
    | (refine Zd rfl 59 (.tmp 10) (.tmp 21) rfl w3.heap.size (ds.map B) rfl rfl 59 Z2 (Blk.new_at rfl) (by simp[hdl.out,Z2]) (Zg hdl.out) (Y5 _) ?_
       generalize hw1:lP _ w3.heap.size (ds.map B).toArray=w4;have hD4:Blk w4 w3.heap.size 59 (ds.map B):=by
         rw[<-hw1];exact (Blk.new_at (w:=w3) (t:=59) (cs:=Z2) rfl).setRow_same (ds.map B)
       have hb4:Below w3.heap.size w3 w4:=by
         rw[<-hw1];exact below_setRow ((lC w3.heap.size w3).alloc (lD _) (.cells Z2.toArray 59)) (lD _) (ds.map B).toArray
       clear hw1;replace hD4:=iD hD4;replace hb4:=iD hb4;go_frame)
    | fail)
  have hZ4:=hZ3.out.below hb4.out hZ3.out.lt;have hX4:=hX3.out.below hb4.out hX3.out.lt;have hR4:=hR3.out.below hb4.out hR3.out.lt;have h4:=h3.out.below hb4.out;have hO4:=(KeepsR.below hb4.out).ops hO3.out;have hk4:=hk3.out.trans (KeepsR.below hb4.out);have hD4':=hD4.out;obtain⟨db,hdb⟩:∃ db,db=w3.heap.size:=⟨_,rfl⟩;rw[<-hdb] at hD4' ⊢;clear hdb hD4 hb4 hZ3 hX3 hR3 h3 hO3 hk3;refine (Z2o r by_ rb g a false _ _ v _ w4 hR4 h4.ref h4.own.tab).mono ?_;rintro e w5 ⟨rfl,hb5⟩;go_wp2_with fail;refine (Z8f w5).mono ?_;rintro e w6 ⟨rfl,hb6⟩;go_wp2_with fail;refine (Zlq _ _ _ w6).mono ?_;rintro e w7 ⟨rfl,hb7⟩;have hb7':=(hb5.trans (hb6.mono hb5.size)).trans (hb7.mono (lG hb5.size hb6.size));have hZ7:=hZ4.below hb7' hZ4.lt;have hX7:=hX4.below hb7' hX4.lt;have hR7:=hR4.below hb7' hR4.lt;have hD7:=hD4'.below hb7' hD4'.lt;have h7:=h4.below hb7';have hO7:=(KeepsR.below hb7').ops hO4;have hk7:=hk4.trans (KeepsR.below hb7');clear hb5 hb6 hb7 hb7' hZ4 hX4 hR4 hD4' h4 hO4 hk4;replace hZ7:=iD hZ7;replace hX7:=iD hX7;replace hR7:=iD hR7;replace hD7:=iD hD7;replace h7:=iD h7;replace hO7:=iD hO7;replace hk7:=iD hk7;have hbc:Hid (∀ W,(Instr.buildSlice 40 1 #[(0,.agg (Z5 a (.slice OA t.length oc)).toArray)]).run lB W=_):=iD (fun W=>Z9h a OA t.length oc W);have x0:w7.cell? ⟨xb,0,none⟩=some Z0:=hX7.out.cell 0;have x1:w7.cell? ⟨xb,1,none⟩=some (.string ⟨a.toArray⟩):=hX7.out.cell 1;have x2:w7.cell? ⟨xb,2,none⟩=some (.string ⟨#[]⟩):=hX7.out.cell 2;have x3:w7.cell? ⟨xb,3,none⟩=some (.slice OA t.length oc):=hX7.out.cell 3;go_upto_region 12 with (fail);generalize hW8:lE w7 _=w8;have hb8:Below w7.heap.size w7 w8:=by rw[<-hW8];exact bL
  have hF8:Blk w8 w7.heap.size 154 (Z5 a (.slice OA t.length oc)):=by rw[<-hW8];exact Blk.new_at (cs:=Z5 a (.slice OA t.length oc)) rfl
  have hZ8:=hZ7.out.below hb8 hZ7.out.lt;have hR8:=hR7.out.below hb8 hR7.out.lt;have hD8:=hD7.out.below hb8 hD7.out.lt;have h8:=h7.out.below hb8;have hO8:=(KeepsR.below hb8).ops hO7.out;have hk8:=hk7.out.trans (KeepsR.below hb8);obtain⟨fb,hfb⟩:∃ fb,fb=w7.heap.size:=⟨_,rfl⟩;rw[<-hfb] at hF8 ⊢;clear x0 x1 x2 x3 hW8 hb8 hX7 hR7 hD7 h7 hO7 hk7 hZ7 hfb;replace hZ8:=iD hZ8;replace hR8:=iD hR8;replace hD8:=iD hD8;replace h8:=iD h8;replace hO8:=iD hO8;replace hk8:=iD hk8;replace hF8:=iD hF8;have hdB:Hid ((ds.map B).length=32):=iD (by simp[hdl.out]);go_wp2_with (first
    | (refine Zy rfl 59 (.tmp 10) rfl db rfl 59 (ds.map B) hD8.out _ underlying59 rfl (Zg hdl.out) ?_)
    | (refine Zfh (.tmp 53) rfl rfl (ds.map B) hdB.out rfl ?_
       generalize hW9:lE w8 _=w9;replace hW9:=iD hW9;have hs9:w9.heap.size=w8.heap.size+1:=by rw[<-hW9.out];simp
       replace hs9:=iD hs9;go_frame)
    | fail)
  generalize hW10:lE w9 _=w10;have hb9:Below w8.heap.size w8 w9:=by rw[<-hW9.out];exact bL
  have hH9:Blk w9 w8.heap.size 59 (ds.map B):=by rw[<-hW9.out];exact Blk.new_at (cs:=ds.map B) rfl
  have hb10:Below w9.heap.size w9 w10:=by rw[<-hW10];exact bL
  have hC10:Blk w10 w9.heap.size 177 [Z1 n,Z0,.slice (some ⟨w8.heap.size,0,none⟩) 1 1]:=by rw[<-hW10];exact Blk.new_at (cs:=[Z1 n,Z0,.slice (some ⟨w8.heap.size,0,none⟩) 1 1]) rfl
  have hH10:=hH9.below hb10 hH9.lt;have hb810:=hb9.trans (hb10.mono hb9.size);have hF10:=hF8.out.below hb810 hF8.out.lt;have hR10:=hR8.out.below hb810 hR8.out.lt;have hZ10:=hZ8.out.below hb810 hZ8.out.lt;have hD10:=hD8.out.below hb810 hD8.out.lt;have h10:=h8.out.below hb810;have hO10:=(KeepsR.below hb810).ops hO8.out;have hk10:=hk8.out.trans (KeepsR.below hb810);have hch:=Zls (ok:=Fr w10) (n:=n) (ds:=ds) hC10 hH10 ⟨_,_,hC10,by decide,by decide,by decide,by decide⟩ ⟨_,_,hH10,by decide,by decide,by decide,by decide⟩;rw[hds.out] at hch;have htu:=Zat a a t n hn ha ht h0 h10 hS.out hroom r by_ hR10 hr OA oc hO10 fb 1 [] (by simpa using hF10) hch hky.out;clear hch hW10 hW9 hs9 hb9 hH9 hb10 hC10 hH10 hb810 hF10 hR10 h10 hO10 hF8 hR8 hZ8 hD8 h8 hO8 hk8 hdB hO;replace hZ10:=iD hZ10;replace hD10:=iD hD10;replace hk10:=iD hk10;refine htu.mono ?_;rintro e w11 ⟨rfl,hk11,h11⟩;have hz1:=hk11.blk _ _ _ hZ10.out (by decide) (by decide) (by decide) (by decide);have hd1:=hk11.blk _ _ _ hD10.out (by decide) (by decide) (by decide) (by decide);have hkk:=hk10.out.trans hk11;have hzlt:=hZ10.out.lt;clear hZ10 hD10 hk10 hk11 htu;replace hz1:=iD hz1;replace hd1:=iD hd1;replace hkk:=iD hkk;replace h11:=iD h11;go_wp2_with (first
    | (refine Zy rfl 59 (.tmp 10) rfl db rfl 59 (ds.map B) hd1.out _ underlying59 rfl (Zg hdl.out) ?_)
    | (refine Zd rfl 59 (.tmp 8) (.tmp 62) rfl zb (ds.map B) rfl rfl 59 Z2 hz1.out (by simp[hdl.out,Z2]) (Zg hdl.out) (Y5 _) ?_)
    | fail)
  have ht12:Touch [zb] w11 (w11.setRow zb (ds.map B).toArray):=Touch.setRow (by simp) _;have hz12:Blk (w11.setRow zb (ds.map B).toArray) zb 59 (ds.map B):=hz1.out.setRow_same _;refine Kd rfl zb 59 (ds.map B) _ (.int .i64 0) rfl rfl hz12 underlying59 rfl (Zg hdl.out) rfl ⟨by rw[hds.out],⟨fun k t' cs hB a1 a2 a3 a4=>(hkk.out.blk k t' cs hB a1 a2 a3 a4).touch ht12 (fun hm=>?_),fun k o ho hm=>Qo ht12 (hkk.out.mark k o ho hm) (by have:=Qc ho;simp;omega)⟩,(h11.out.touch ht12 (fun i hi=>?_)).lower (by omega)⟩
  · have:=hB.lt
    obtain rfl:k=zb:=by simpa using hm
    omega
  · obtain rfl:i=zb:=by simpa using hi
    exact⟨hbz.out _ (by omega),hzlt,_,_,hz1.out,by decide,by decide,by decide,by decide,by decide,by decide,by decide⟩
end
section
set_option maxRecDepth 100000
set_option maxHeartbeats 16000000
open Go.Lib renaming hid → iD
open Go.Proofs.Tryz
open Go.RowKit
theorem Z5h{w2 wa:World}{p:Nat}{l:List POp}{V:Value}{cs:List Value}(hb:Below w2.heap.size w2 wa)(hp:w2.heap.size<=p)(hB:Blk wa p 154 cs)(hO:Zl wa (OpB wa) V l)(c:List Value) :
  Blk (wa.setRow p c.toArray) p 154 c/\Zl (wa.setRow p c.toArray) (OpB (wa.setRow p c.toArray)) V l/\Below w2.heap.size w2 (wa.setRow p c.toArray) :=
 ⟨hB.setRow_same _,hO.touchB (Touch.setRow (L:=[p]) (by simp) _) (fun i hi cs' hB'=>by
  obtain rfl:i=p:=by simpa using hi
  exact absurd (hB.unique hB') (by decide)),below_setRow hb hp _⟩
theorem Zlu(v:Value)(n:Str)(ok:Nat->Prop)(w:World)(h:TabIs w ok v []):Calls lB 171 #[v,Z1 n] w fun e w'=>e=.returned Z0/\Below w.heap.size w w':=by
 have ha:=Z40 [] v n ok w h (by simp) (by simp[J4]);have hh:Q9 [] n=false:=rfl;rw[hh] at ha;obtain⟨A,c,rfl,_⟩:=h.form;unfold Z1 at ha ⊢;generalize Ye [] n=p at ha;clear h hh;go_enter func171,ntmps171;go_wp2_with fail;refine ha.mono ?_;rintro e w2 ⟨rfl,hb2⟩;go_wp2_with fail;go_returns;exact⟨rfl,hb2⟩
theorem Zlv(rb:Nat)(d br v:Value)(n:Str)(ok:Nat->Prop)(w:World)(hB:Blk w rb 267 [d,v,br])(h:TabIs w ok v []) :
  Calls lB 91 #[.pointer (some ⟨rb,0,none⟩),Z1 n] w fun e w'=>e=.returned (.tuple #[Z0,.bool false])/\Below w.heap.size w w':=by
 have hst:=Zlu v n ok w h;obtain⟨A,c,rfl,_⟩:=h.form;have h1:=hB.cell 1;unfold Z1 at hst ⊢;clear h hB;go_enter func91,ntmps91;go_wp2_with fail;refine hst.mono ?_;rintro e w2 ⟨rfl,hb2⟩;go_wp2_with fail;refine (Z51 w2).mono ?_;rintro e w3 ⟨rfl,rfl⟩;go_wp2_with fail;refine bodyPost_ret (results_tmp2 rfl _ _ _) rfl ?_;exact⟨rfl,hb2⟩
theorem Zlw{w0:World}{base:Nat->Prop}{g rb:Nat}{S:DS}{v:Value}{w:World}(a t n:Str)(hn:Z6 n=true)(ha:Z6 a=true)(ht:t.length<=1000)(h0:t ≠ [])(h:Ref w0 base rb g v S [] w)(hS:Live S none)(hroom:1000000<=S.room)(r by_:Nat)(hR:Blk w r 47 (Y1 Z0 by_ rb g a false))(hr:base r)
  (hky:∀ W,Stay base w0 W->Zm W) (nb rc ob tb ic:Nat) (hnb:Blk w nb 9 [Z1 n]) (hrc:Blk w rc 31 [.pointer (some ⟨r,0,none⟩)]) (hob:Blk w ob 9 [Z1 []]) (htb:Blk w tb 9 [Z1 t]) (hic:Blk w ic 59 Z2) (hicb:base ic) :
  Calls lB 89 #[.pointer (some ⟨nb,0,none⟩),.pointer (some ⟨rc,0,none⟩),.pointer (some ⟨ob,0,none⟩),.pointer (some ⟨tb,0,none⟩),.pointer (some ⟨ic,0,none⟩)] w fun e w'=>e=.returned (.int .i64 0)/\KeepsC ic w w'/\Blk w' ic 59 ((idT a t).map B)/\OneSt w0 base w.heap.size g rb r a a t n w':=by
 have hnl:=nmOk_len' hn;have hnm:=Vr n w (by omega);have n0:=hnb.cell 0;have r0:=hrc.cell 0;have rr2:=hR.cell 2;unfold Z1 at hnm n0;rw[hn] at hnm;go_enter func89,ntmps89;go_wp2_with fail;refine hnm.mono ?_;rintro e w' ⟨rfl,rfl⟩;clear n0 r0 rr2 hnm;go_wp2_with fail;obtain⟨PS,hPS⟩:∃ PS:World->Prop,∀ x,PS x ↔ Below w.heap.size w x:=⟨_,fun _=>lJ⟩;have s0:∀ s:Cls PS,s.1.cell? ⟨nb,0,none⟩=some (.string ⟨n.toArray⟩):=fun s=>(hnb.below ((hPS _).1 s.2) hnb.lt).cell 0;have s1:∀ s:Cls PS,s.1.cell? ⟨rc,0,none⟩=some (.pointer (some ⟨r,0,none⟩)):=fun s=>(hrc.below ((hPS _).1 s.2) hrc.lt).cell 0;have s2:∀ s:Cls PS,s.1.cell? ⟨r,2,none⟩=some (.pointer (some ⟨rb,0,none⟩)):=fun s=>(hR.below ((hPS _).1 s.2) hR.lt).cell 2;have s4:PS w.drew:=(hPS _).2 (lC _ _).drew;haveI : Nonempty (Cls PS):=⟨⟨_,s4⟩⟩;replace hPS:=iD hPS;refine Yh (fun w'=>∃ s:Cls PS,w'=s.1) [([0,1,2,3,4],5)] [6,7,8,9] 10 [] (by kernel_rfl) (by kernel_rfl) (fun _ d _ _ _ h=>by cases d <;> exact h) ⟨⟨_,s4⟩,rfl⟩ ?_;simp only[Y4,Z7,lK,lL,Zo,Zn];repeat (first | go_big_quiet_step (fail))
 refine lA ?_;intro K hK;go_simp;have hbd:=(lC w.heap.size w).drew;have hget:=Zlv rb _ _ v n _ w.drew h.ref.drew (h.own.tab.stayB hbd);unfold Z1 at hget;refine hget.mono ?_;rintro e w2 ⟨rfl,hb2⟩;have hb2':=hbd.trans hb2;refine hK _ _ ⟨⟨_,(hPS.out _).2 hb2'⟩,rfl⟩ ?_;clear hK hget s0 s1 s2 s4 hb2 hbd;repeat (first | go_big_quiet_step (fail))
 refine lA ?_;have hnb2:=hnb.below hb2' hnb.lt;have hrc2:=hrc.below hb2' hrc.lt;have hob2:=hob.below hb2' hob.lt;have htb2:=htb.below hb2' htb.lt;have hic2:=hic.below hb2' hic.lt;have hR2:=hR.below hb2' hR.lt;have h2:=h.below hb2';have hbs:=iD h.size;have hicl:=hic.lt;clear hnb hrc hob htb hic hR h;replace hb2':=iD hb2';replace hnb2:=iD hnb2;replace hrc2:=iD hrc2;replace hob2:=iD hob2;replace htb2:=iD htb2;replace hic2:=iD hic2;replace hR2:=iD hR2;replace h2:=iD h2;replace hky:=iD hky;replace hS:=iD hS;go_wp2_with fail;have hpast:Hid (∀ W,Below w2.heap.size w2 W->Calls lB 82 #[.pointer (some ⟨r,0,none⟩)] W fun e W'=>e=.returned Z0/\Below W.heap.size W W'/\Below w2.heap.size w2 W'):=iD (fun W hb=>(Z2o r by_ rb g a false _ _ v _ W (hR2.out.below hb hR2.out.lt) (h2.out.below hb).ref (h2.out.below hb).own.tab).mono (by
  rintro e w' ⟨he,hb'⟩;exact⟨he,hb',hb.trans (hb'.mono hb.size)⟩))
 have hcom:Hid (∀ W,Below w2.heap.size w2 W->Calls lB 93 #[Z0,Z0,.string ⟨a.toArray⟩,.string ⟨#[]⟩,.string ⟨t.toArray⟩] W fun e W'=>∃ OA oc,e=.returned (.tuple #[.agg #[Z0,.string ⟨a.toArray⟩,.string ⟨#[]⟩,.slice OA t.length oc],.int .i64 0])/\Zl W' (OpB W') (.slice OA t.length oc) (chain t)/\Below W.heap.size W W'/\Below w2.heap.size w2 W'):=iD (fun W hb=>(Zfw a t ha ht h0 W).mono (by
  rintro e w' ⟨o,he,hrow,hb'⟩;obtain⟨OA,oc,rfl,_,_⟩:=Za hrow;exact⟨OA,oc,he,Zas hrow (Jq t 0),hb',hb.trans (hb'.mono hb.size)⟩))
 go_upto_region 6 with fail;go_cut [8,9] (fun p e wx=>∃ pb OA oc,p=.pointer (some ⟨pb,0,none⟩)/\e=.int .i64 0/\w2.heap.size<=pb/\Blk wx pb 154 (Z5 a (.slice OA t.length oc))/\Zl wx (OpB wx) (.slice OA t.length oc) (chain t)/\Below w2.heap.size w2 wx)
 case first =>
  obtain⟨PS,hPS⟩:∃ PS:World->Prop,∀ x,PS x ↔ Below w2.heap.size w2 x:=⟨_,fun _=>lJ⟩;have s0:∀ s:Cls PS,s.1.cell? ⟨rc,0,none⟩=some (.pointer (some ⟨r,0,none⟩)):=fun s=>(hrc2.out.below ((hPS _).1 s.2) hrc2.out.lt).cell 0;have s1:∀ s:Cls PS,s.1.cell? ⟨r,4,none⟩=some (.string ⟨a.toArray⟩):=fun s=>(hR2.out.below ((hPS _).1 s.2) hR2.out.lt).cell 4;have s2:∀ s:Cls PS,s.1.cell? ⟨ob,0,none⟩=some (.string ⟨#[]⟩):=fun s=>(hob2.out.below ((hPS _).1 s.2) hob2.out.lt).cell 0;have s3:∀ s:Cls PS,s.1.cell? ⟨tb,0,none⟩=some (.string ⟨t.toArray⟩):=fun s=>(htb2.out.below ((hPS _).1 s.2) htb2.out.lt).cell 0;have hbd:=(lC w2.heap.size w2).drew;have s4:PS w2.drew:=(hPS _).2 hbd;haveI : Nonempty (Cls PS):=⟨⟨_,s4⟩⟩;replace hPS:=iD hPS;refine Z0t (fun w'=>∃ s:Cls PS,w'=s.1) (.two [0,2,3,4,5,6,7,8] 1 (.two [] 9 (.one [10,11,12] 13 (.one [] 14 (.tail []))) 13 (.one [] 9 (.one [10,11,12] 14 (.tail [])))) 13 (.one [] 1 (.one [] 9 (.one [10,11,12] 14 (.tail []))))) 15 [] (by kernel_rfl) (by kernel_rfl) (fun _ d _ _ _ h=>by cases d <;> exact h) ⟨⟨_,s4⟩,rfl⟩ ?_;simp only[Vg,Ur,Z7,lK,lL,Zo,Zn];repeat (first | go_big_quiet_step (fail))
  refine lA ?_;refine⟨?_,?_⟩
  ·intro K hK;go_simp;refine (hpast.out _ hbd).mono ?_;rintro e w4 ⟨rfl,hb4,hb4'⟩;refine hK _ _ ⟨⟨_,(hPS.out _).2 hb4'⟩,rfl⟩ ?_;clear hK;have hs4:=hb4'.size;refine lA ?_;refine⟨?_,?_⟩
   ·intro K hK;go_simp;refine (hcom.out _ hb4').mono ?_;rintro e w5 ⟨OA,oc,rfl,hO5,hb5,hb5'⟩;refine hK _ _ ⟨⟨_,(hPS.out _).2 hb5'⟩,rfl⟩ ?_;clear hK;have hpz:=hb5'.size;have hOz:=(KeepsR.below ((lC w5.heap.size w5).alloc (lD _) (.cells [Z0,.string ⟨#[]⟩,.string ⟨#[]⟩,Z0].toArray 154))).opb hO5;have hbz:=hb5'.alloc hpz (.cells [Z0,.string ⟨#[]⟩,.string ⟨#[]⟩,Z0].toArray 154);have hBz:=Blk.new_at (w:=w5) (t:=154) (cs:=[Z0,.string ⟨#[]⟩,.string ⟨#[]⟩,Z0]) rfl;replace hO5:=iD hO5;repeat (first | go_big_quiet_step (fail))
    refine lA ?_;intro K hK;go_simp;obtain⟨q1,q2,q3⟩:=Z5h hbz hpz hBz hOz (Z5 a (.slice OA t.length oc));refine hK _ _ ⟨⟨_,(hPS.out _).2 hbz⟩,rfl⟩ ?_;clear hK;replace hOz:=iD hOz;replace q1:=iD q1;replace q2:=iD q2;replace q3:=iD q3;replace hBz:=iD hBz;replace hpz:=iD hpz;repeat (first | go_big_quiet_step (fail))
    refine lA ?_;intro K hK;refine G5 _ rfl 154 (.tmp 8) (.tmp 38) rfl w5.heap.size (Z5 a (.slice OA t.length oc)) rfl rfl 154 [Z0,.string ⟨#[]⟩,.string ⟨#[]⟩,Z0] hBz.out rfl (Ky _ _) (by simp[Z5,lI]) ?_;refine hK _ _ ⟨⟨_,(hPS.out _).2 q3.out⟩,rfl⟩ ?_;clear hK;refine lA ?_;go_wp2_with fail;go_meet;exact⟨_,OA,oc,rfl,rfl,hpz.out,q1.out,q2.out,q3.out⟩
   ·intro K hK;go_simp;have hba:=hb4'.alloc hs4 (.cells [Z0,.string ⟨#[]⟩,.string ⟨#[]⟩,Z0].toArray 154);have hBa:=Blk.new_at (w:=w4) (t:=154) (cs:=[Z0,.string ⟨#[]⟩,.string ⟨#[]⟩,Z0]) rfl;refine hK _ _ ⟨⟨_,(hPS.out _).2 hba⟩,rfl⟩ ?_;clear hK;refine lA ?_;intro K hK;go_simp;refine (hcom.out _ hba).mono ?_;rintro e w5 ⟨OA,oc,rfl,hOz,hb5,hbz⟩;have hBz:=hBa.below hb5 hBa.lt;have hpz:=hs4;clear hBa hba;obtain⟨q1,q2,q3⟩:=Z5h hbz hpz hBz hOz (Z5 a (.slice OA t.length oc));refine hK _ _ ⟨⟨_,(hPS.out _).2 hbz⟩,rfl⟩ ?_;clear hK;replace hOz:=iD hOz;replace q1:=iD q1;replace q2:=iD q2;replace q3:=iD q3;replace hBz:=iD hBz;replace hpz:=iD hpz;repeat (first | go_big_quiet_step (fail))
    refine lA ?_;intro K hK;refine G5 _ rfl 154 (.tmp 8) (.tmp 38) rfl w4.heap.size (Z5 a (.slice OA t.length oc)) rfl rfl 154 [Z0,.string ⟨#[]⟩,.string ⟨#[]⟩,Z0] hBz.out rfl (Ky _ _) (by simp[Z5,lI]) ?_;refine hK _ _ ⟨⟨_,(hPS.out _).2 q3.out⟩,rfl⟩ ?_;clear hK;refine lA ?_;go_wp2_with fail;go_meet;exact⟨_,OA,oc,rfl,rfl,hpz.out,q1.out,q2.out,q3.out⟩
  ·intro K hK;go_simp;have hba:=hbd.alloc hbd.size (.cells [Z0,.string ⟨#[]⟩,.string ⟨#[]⟩,Z0].toArray 154);have hBa:=Blk.new_at (w:=w2.drew) (t:=154) (cs:=[Z0,.string ⟨#[]⟩,.string ⟨#[]⟩,Z0]) rfl;refine hK _ _ ⟨⟨_,(hPS.out _).2 hba⟩,rfl⟩ ?_;clear hK;refine lA ?_;intro K hK;go_simp;refine (hpast.out _ hba).mono ?_;rintro e w4 ⟨rfl,hb4,hb4'⟩;have hBc:=hBa.below hb4 hBa.lt;refine hK _ _ ⟨⟨_,(hPS.out _).2 hb4'⟩,rfl⟩ ?_;clear hK;refine lA ?_;intro K hK;go_simp;refine (hcom.out _ hb4').mono ?_;rintro e w5 ⟨OA,oc,rfl,hOz,hb5,hbz⟩;have hBz:=hBc.below hb5 hBc.lt;have hpz:=hbd.size;clear hBa hba hBc;obtain⟨q1,q2,q3⟩:=Z5h hbz hpz hBz hOz (Z5 a (.slice OA t.length oc));refine hK _ _ ⟨⟨_,(hPS.out _).2 hbz⟩,rfl⟩ ?_;clear hK;replace hOz:=iD hOz;replace q1:=iD q1;replace q2:=iD q2;replace q3:=iD q3;replace hBz:=iD hBz;replace hpz:=iD hpz;repeat (first | go_big_quiet_step (fail))
   refine lA ?_;intro K hK;refine G5 _ rfl 154 (.tmp 8) (.tmp 38) rfl w2.heap.size (Z5 a (.slice OA t.length oc)) rfl rfl 154 [Z0,.string ⟨#[]⟩,.string ⟨#[]⟩,Z0] hBz.out rfl (Ky _ _) (by simp[Z5,lI]) ?_;refine hK _ _ ⟨⟨_,(hPS.out _).2 q3.out⟩,rfl⟩ ?_;clear hK;refine lA ?_;go_wp2_with fail;go_meet;exact⟨_,OA,oc,rfl,rfl,hpz.out,q1.out,q2.out,q3.out⟩
 case rest =>
  obtain⟨pb,OA,oc,rfl,rfl,hpb,hB,hO,hb⟩:=hcut;have n0:wc.cell? ⟨nb,0,none⟩=some (.string ⟨n.toArray⟩):=(hnb2.out.below hb hnb2.out.lt).cell 0;have r0:wc.cell? ⟨rc,0,none⟩=some (.pointer (some ⟨r,0,none⟩)):=(hrc2.out.below hb hrc2.out.lt).cell 0;have p0:wc.cell? ⟨pb,0,none⟩=some Z0:=hB.cell 0;have p1:wc.cell? ⟨pb,1,none⟩=some (.string ⟨a.toArray⟩):=hB.cell 1;have p2:wc.cell? ⟨pb,2,none⟩=some (.string ⟨#[]⟩):=hB.cell 2;have p3:wc.cell? ⟨pb,3,none⟩=some (.slice OA t.length oc):=hB.cell 3;have hpl:=Zlt a t n hn ha ht h0 (h2.out.below hb) hS.out hroom r by_ (hR2.out.below hb hR2.out.lt) hr OA oc hO.fr hky.out;have hic3:=hic2.out.below hb hic2.out.lt;have hb3:=hb2'.out.trans (hb.mono hb2'.out.size);unfold Z1 Z5 at hpl;clear hB hO hb hpast hcom;replace hic3:=iD hic3;replace hb3:=iD hb3;go_wp2_with fail;refine hpl.mono ?_;rintro e w4 ⟨rfl,hk4,h4⟩;clear hpl n0 r0 p0 p1 p2 p3;obtain⟨ds,hds⟩:∃ ds,ds=idT a t:=⟨_,rfl⟩;have hdl:ds.length=32:=by rw[hds];exact Q4 a t
  rw[<-hds];have hic4:=hk4.blk _ _ _ hic3.out (by decide) (by decide) (by decide) (by decide);replace hds:=iD hds;replace hdl:=iD hdl;replace hk4:=iD hk4;replace h4:=iD h4;replace hic4:=iD hic4;go_wp2_with (first | (refine Zd rfl 59 (.tmp 4) (.tmp 49) rfl ic (ds.map B) rfl rfl 59 Z2 hic4.out (by simp[hdl.out,Z2]) (Zg hdl.out) (Y5 _) ?_) | fail);have ht5:Touch [ic] w4 (w4.setRow ic (ds.map B).toArray):=Touch.setRow (by simp) _;have hi5:Blk (w4.setRow ic (ds.map B).toArray) ic 59 (ds.map B):=hic4.out.setRow_same _;have hk5:KeepsC ic w (w4.setRow ic (ds.map B).toArray):=⟨fun k t' cs hB a1 a2 a3 a4 a5 =>
   (hk4.out.blk k t' cs (hB.below hb3.out hB.lt) a1 a2 a3 a4).touch ht5 (by simpa using a5),fun k o ho hm=>Qo ht5 (hk4.out.mark k o ((hb3.out.block k (Qc ho)).trans ho) hm) (by
    have h1:=hk4.out.mark k o ((hb3.out.block k (Qc ho)).trans ho) hm;intro hf;obtain rfl:k=ic:=by simpa using hf
    exact Kk h1 hm hic4.out)⟩
  have h5:=(h4.out.touch ht5 (fun i hi=>by
   obtain rfl:i=ic:=by simpa using hi
   exact⟨hicb,by have:=hb3.out.size;omega,_,_,hic4.out,by decide,by decide,by decide,by decide,by decide,by decide,by decide⟩)).lower hb3.out.size
  generalize w4.setRow ic (ds.map B).toArray=w5 at hi5 hk5 h5 ⊢;clear ht5;replace hi5:=iD hi5;replace hk5:=iD hk5;replace h5:=iD h5;go_wp2_with fail;go_returns;rw[<-hds.out];exact⟨rfl,hk5.out,hi5.out,h5.out⟩
end
section
set_option maxRecDepth 100000
set_option maxHeartbeats 4000000
open Go.Lib renaming hid → iD
open Go.Proofs.Tryz
open Go.RowKit
theorem Z5i{w:World}{g i:Nat}{t:TypeId}{cs:List Value}{v:Value}(h:Blk w g t cs)(hi:cs[i]?=some v):w.setCell ⟨g,i,none⟩ v=w:=by
 have e1:w.setCell ⟨g,i,none⟩ v=w.setRow g (cs.set i v).toArray:=by
  unfold World.setCell lP
  congr 1
  apply Array.ext_getElem?;intro k;rw[lQ,lQ];by_cases hk:g=k
  ·subst hk;have h1:w.heap[g]?=some (.cells cs.toArray t (0,0)):=h;rw[if_pos rfl,if_pos rfl,h1];simp
  ·rw[if_neg hk,if_neg hk]
 have e2:cs.set i v=cs:=by
  apply List.ext_getElem?;intro k;rw[List.getElem?_set];split
  ·rename_i hk;subst hk;have:=(List.getElem?_eq_some_iff.1 hi).1;rw[if_pos this,hi]
  ·rfl
 rw[e1,e2,Z03 h]
theorem Zlx{w0:World}{base:Nat->Prop}{g rb:Nat}{S:DS}{v:Value}{w:World}(a t n:Str)(hn:Z6 n=true)(ha:Z6 a=true)(ht:t.length<=1000)(h0:t ≠ [])(h:Ref w0 base rb g v S [] w)(hS:Live S none)(hroom:1000000<=S.room)(r by_:Nat)(hR:Blk w r 47 (Y1 Z0 by_ rb g a false))(hr:base r)
  (hky:∀ W,Stay base w0 W->Zm W) (nb rc ob tb ic:Nat) (hnb:Blk w nb 9 [Z1 n]) (hrc:Blk w rc 31 [.pointer (some ⟨r,0,none⟩)]) (hob:Blk w ob 9 [Z1 []]) (htb:Blk w tb 9 [Z1 t]) (hic:Blk w ic 59 Z2) (hicb:base ic) :
  Calls lB 88 #[.pointer (some ⟨r,0,none⟩),.func (.func 89) #[] #[.pointer (some ⟨nb,0,none⟩),.pointer (some ⟨rc,0,none⟩),.pointer (some ⟨ob,0,none⟩),.pointer (some ⟨tb,0,none⟩),.pointer (some ⟨ic,0,none⟩)]] w fun e w'=>e=.returned (.int .i64 0)/\KeepsC ic w w'/\Blk w' ic 59 ((idT a t).map B)/\OneSt w0 base w.heap.size g rb r a a t n w':=by
 have hm:=Gi r Z0 by_ rb g a false w hR;have r5:w.cell? ⟨r,5,none⟩=some (.bool false):=hR.cell 5;have hc1:=iD (Zlw a t n hn ha ht h0 h hS hroom r by_ hR hr hky nb rc ob tb ic hnb hrc hob htb hic hicb);clear hnb hrc hob htb hic hR h;go_enter func88,ntmps88;go_wp2_with fail;refine hm.mono ?_;rintro e w1 ⟨rfl,rfl⟩;go_wp2_with fail;refine hc1.out.mono ?_;rintro e w2 ⟨rfl,hk2,hi2,h2⟩;obtain⟨lb,lc,rest,by',V,v',S',hR2,_⟩:=h2.st;have q5:w2.cell? ⟨r,5,none⟩=some (.bool false):=hR2.cell 5;have f5:=hR2.frozen 5;have hid5:w2.setCell ⟨r,5,none⟩ (.bool false)=w2:=Z5i hR2 rfl;clear hR2;replace hk2:=iD hk2;replace hi2:=iD hi2;replace h2:=iD h2;clear r5;go_wp2_with fail;go_returns;exact⟨rfl,hk2.out,hi2.out,h2.out⟩
theorem Zau{w0:World}{base:Nat->Prop}{g rb:Nat}{S:DS}{v:Value}{w:World}(a t n:Str)(hn:Z6 n=true)(ha:Z6 a=true)(ht:t.length<=1000)(h0:t ≠ [])(h:Ref w0 base rb g v S [] w)(hS:Live S none)(hroom:1000000<=S.room)(r by_:Nat)(hR:Blk w r 47 (Y1 Z0 by_ rb g a false))(hr:base r)
  (hky:∀ W,Stay base w0 W->Zm W) :
  Calls lB 31 #[.pointer (some ⟨r,0,none⟩),Z1 n,Z1 [],Z1 t] w fun e w'=>e=.returned (.tuple #[.agg ((idT a t).map B).toArray,.int .i64 0])/\KeepsR w w'/\OneSt w0 base w.heap.size g rb r a a t n w':=by
 have hbs:=iD h.size;generalize hW:((((w.alloc (.cells #[.pointer (some ⟨r,0,none⟩)] 31)).alloc (.cells #[Z1 n] 9)).alloc (.cells #[Z1 []] 9)).alloc (.cells #[Z1 t] 9))=w1;have hb1:Below w.heap.size w w1:=by rw[<-hW];exact ((bL.alloc (by simp) _).alloc (by simp;omega) _).alloc (by simp;omega) _
 have hs1:w1.heap.size=w.heap.size+4:=by rw[<-hW];simp
 have h1r:Blk w1 w.heap.size 31 [.pointer (some ⟨r,0,none⟩)]:=by rw[<-hW];exact (((Blk.new_at (cs:=[_]) rfl).alloc _).alloc _).alloc _
 have h1n:Blk w1 (w.heap.size+1) 9 [Z1 n]:=by rw[<-hW];exact ((Blk.new_at (cs:=[_]) (by simp)).alloc _).alloc _
 have h1o:Blk w1 (w.heap.size+2) 9 [Z1 []]:=by rw[<-hW];exact (Blk.new_at (cs:=[_]) (by simp)).alloc _
 have h1t:Blk w1 (w.heap.size+3) 9 [Z1 t]:=by rw[<-hW];exact Blk.new_at (cs:=[_]) (by simp)
 have q0:w1.cell? ⟨w.heap.size,0,none⟩=some (.pointer (some ⟨r,0,none⟩)):=h1r.cell 0;have q1:∀ o,(w1.alloc o).cell? ⟨w.heap.size,0,none⟩=some (.pointer (some ⟨r,0,none⟩)):=fun o=>(h1r.alloc o).cell 0;replace h1r:=iD h1r;replace h1n:=iD h1n;replace h1o:=iD h1o;replace h1t:=iD h1t;replace h:=iD h;replace hR:=iD hR;unfold Z1 at hW ⊢;go_enter func31,ntmps31;go_wp2_with fail;generalize hW2:lE w1 _=w2;have hb2:Below w1.heap.size w1 w2:=by rw[<-hW2];exact bL
 have hi2:Blk w2 (w.heap.size+4) 59 Z2:=by rw[<-hW2];exact Blk.new_at (cs:=Z2) hs1.symm
 have h2r:=h1r.out.below hb2 h1r.out.lt;have h2n:=h1n.out.below hb2 h1n.out.lt;have h2o:=h1o.out.below hb2 h1o.out.lt;have h2t:=h1t.out.below hb2 h1t.out.lt;have hb2':=hb1.trans (hb2.mono hb1.size);have h2:=h.out.below hb2';have hR2:=hR.out.below hb2' hR.out.lt;have hwr:=Zlx a t n hn ha ht h0 h2 hS hroom r by_ hR2 hr hky _ _ _ _ _ h2n h2r h2o h2t hi2 (hbs.out _ (by omega));clear hW hW2 q0 q1 h1r h1n h1o h1t hb1 hb2 hs1 h2r h2n h2o h2t h2 hR2;replace hb2':=iD hb2';refine hwr.mono ?_;rintro e w3 ⟨rfl,hk3,hi3,h3⟩;clear hwr hi2;obtain⟨ds,hds⟩:∃ ds,ds=idT a t:=⟨_,rfl⟩;have hdl:ds.length=32:=by rw[hds];exact Q4 a t
 rw[<-hds] at hi3;have hrow:=Z03 hi3;replace hds:=iD hds;replace hdl:=iD hdl;replace hk3:=iD hk3;replace h3:=iD h3;replace hi3:=iD hi3;replace hrow:=iD hrow;go_wp2_with (first
  | (refine Zy rfl 59 (.tmp 8) rfl (w.heap.size+4) rfl 59 (ds.map B) hi3.out _ underlying59 rfl (Zg hdl.out) ?_)
  | (refine Zd rfl 59 (.tmp 8) (.tmp 13) rfl (w.heap.size+4) (ds.map B) rfl rfl 59 (ds.map B) hi3.out rfl (Zg hdl.out) (Y5 _) ?_)
  | fail)
 rw[hrow.out];refine Kd rfl (w.heap.size+4) 59 (ds.map B) _ (.int .i64 0) rfl rfl hi3.out underlying59 rfl (Zg hdl.out) rfl ⟨by rw[hds.out],⟨fun k t' cs hB a1 a2 a3 a4=>hk3.out.blk k t' cs (hB.below hb2'.out hB.lt) a1 a2 a3 a4 (by have:=hB.lt;omega),fun k o ho hm=>hk3.out.mark k o ((hb2'.out.block k (Qc ho)).trans ho) hm⟩,h3.out.lower hb2'.out.size⟩
end
section
set_option maxRecDepth 100000
set_option maxHeartbeats 4000000
open Go.Lib renaming hid → iD
open Go.Proofs.Tryz
open Go.RowKit
theorem Zmn(w:World):Calls lB 134 #[.int .i64 16777216] w fun e w'=>∃ g,e=.returned (.pointer (some ⟨g,0,none⟩))/\Ses w (w.heap.size<=·) g (DS.new 16777216) w':=by
 have hn:=iD (Z96 16777216 w (by omega) (by omega));go_enter func134,ntmps134;go_wp2_with fail;refine hn.out.mono ?_;rintro e w2 ⟨g,L,rfl,hD,hL,hb⟩;have hS:Hid (Ses w (w.heap.size<=·) g (DS.new 16777216) w2):=iD ⟨Z2n hb (fun i h1 _=>h1),fun i hi=>lG hb.size hi,L,hD,hL⟩;clear hn hD hL hb;go_wp2_with fail;go_returns;exact⟨g,rfl,hS.out⟩
theorem Zb6(a:Str)(ha:Z6 a=true)(w:World):Calls lB 45 #[.string ⟨a.toArray⟩] w fun e w'=>∃ r by_ rb v g,e=.returned (.tuple #[.pointer (some ⟨r,0,none⟩),.pointer (some ⟨g,0,none⟩)])/\Blk w' r 47 (Y1 Z0 by_ rb g a false)/\Z8 w' by_ []/\Ref w (w.heap.size<=·) rb g v (DS.new 16777216) [] w'/\w.heap.size<=r/\w.heap.size<=by_:=by
 have hf:=iD (Zmn w);go_enter func45,ntmps45;go_wp2_with fail;refine hf.out.mono ?_;rintro e w1 ⟨g,rfl,hS⟩;have ho:=Z50 hS (Live.new (by omega) (by omega)) a ha;unfold Z1 at ho;replace ho:=iD ho;clear hf hS;go_wp2_with fail;refine ho.out.mono ?_;rintro e w2 ⟨r,by_,rb,v,rfl,hR,hM,hF,hr,hby⟩;replace hR:=iD hR;replace hM:=iD hM;replace hF:=iD hF;go_wp2_with fail;go_returns;exact⟨r,by_,rb,v,g,rfl,hR.out,hM.out,hF.out,hr,hby⟩
end
end Go.Proofs.YtefjlobdifjogaaGreatDoor
