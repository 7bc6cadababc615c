import Derived.Test.YtefjlobdifjogaaGreatDoorP21
import Derived.Test.YtefjlobdifjogaaGreatDoorP20
open Go renaming rounds_succ → lB, wp_loop_rounds → lC, wpQuiet_nil → lF
open Go.Instr renaming makeFunc → lH
open Go.Proofs.Tryz renaming prog → lA
open Go.RowKit.Below renaming refl → lE
open Go.Value renaming oneCell' → lI
open Go.World renaming setRow → lD, alloc → lJ
open Iff renaming rfl → lK
open List renaming map_cons → lL, map_nil → lM, mem_singleton → lN
open Nat renaming le_refl → lG, le_trans → lO
namespace Go.Proofs.YtefjlobdifjogaaGreatDoor
section
set_option maxRecDepth 100000
set_option maxHeartbeats 16000000
open Go.Lib renaming hid → iD
open Go.Proofs.Tryz
open Go.RowKit Go.Maps Go.MapKept Go.ChangeMaps
theorem Zm4(ds a:Str)(hdl:ds.length=32)(OA:Option Addr)(on oc mb kb by_:Nat)(w:World)(hM:Y9 w mb [(.agg (ds.map B).toArray,.agg (Z5 a (.slice OA on oc)).toArray)])(hk:Blk w kb 43 [Z0,.map (some by_)])(hb:Z8 w by_ [])(hne:by_ ≠ mb) :
  Calls lA 211 #[.map (some mb),.pointer (some ⟨kb,0,none⟩)] w fun e w'=>∃ lb lc rest,e=.returned (.bool true)/\Blk w' kb 43 [.slice (some ⟨lb,0,none⟩) 1 lc,.map (some by_)]/\Blk w' lb 154 (Z5 a (.slice OA on oc)++rest)/\Z8 w' by_ [(.agg (ds.map B).toArray,.int .i64 0)]/\Y9 w' mb []/\w.heap.size<=lb/\Touch [kb,by_,mb] w w':=by
 have hmf:∀ (fn:Fn) (first cap:Array Value) (w:World),(lH fn first cap).run lA w=.ok (.func fn first cap) w:=fun _ _ _ _=>rfl;obtain⟨dc,hdc⟩:∃ dc,dc=ds.map B:=⟨_,rfl⟩;have hdcl:dc.length=32:=by rw[hdc,List.length_map,hdl]
 have hdz:(lA.info? 59).map (·.size)=some dc.length:=by rw[hdc];exact Zg hdl
 have hdo:∀ v ∈ dc,v.oneCell'=true:=by rw[hdc];exact Y5 _
 have hdk:Ue (.agg dc.toArray):=by rw[hdc];exact Xs ds hdl
 have hka:=iD (fun w hk hM=>Z9i ds a hdl OA on oc kb by_ w hk hM);rw[<-hdc] at hM hka ⊢;obtain⟨cz,hcz⟩:∃ cz,cz=Z5 a (.slice OA on oc):=⟨_,rfl⟩;have hcl:cz.length=4:=by rw[hcz];rfl
 have hcsz:(lA.info? 154).map (·.size)=some cz.length:=by rw[hcz];exact Ky _ _
 have hco:∀ v ∈ cz,v.oneCell'=true:=by rw[hcz];simp[Z5,lI]
 have hc0:cz[0]?=some Z0:=by rw[hcz];rfl
 have hmk:=hM.v.ne_blk hk;have hltM:=hM.lt;have hltk:=hk.lt;have hltb:=hb.lt;rw[<-hcz] at hM hka ⊢;have hcn:=iD Z5e;replace hdc:=iD hdc;replace hcz:=iD hcz;replace hdz:=iD hdz;replace hdo:=iD hdo;replace hdk:=iD hdk;replace hcsz:=iD hcsz;replace hco:=iD hco;replace hM:=iD hM;replace hk:=iD hk;replace hb:=iD hb;go_enter func211,ntmps211;go_upto_region 3 with fail;generalize hW1:lJ w _=w1;have hb1:Below w.heap.size w w1:=by rw[<-hW1];exact bL
 have hZ1:Blk w1 w.heap.size 59 Z2:=by rw[<-hW1];exact Blk.new_at rfl
 have hM1:=hM.out.below hb1 hM.out.lt;have hs1:w.heap.size<w1.heap.size:=by rw[<-hW1];simp
 clear hW1 hM;replace hM1:=iD hM1;replace hZ1:=iD hZ1;go_wp2_with (first
  | (at_range;refine Z54 rfl (.tmp 9) 190 rfl 59 154 underlying190 mb _ rfl hM1.out ?_;intro w3 hI3 hb3;replace hI3:=iD hI3;replace hb3:=iD hb3;go_frame)
  | fail)
 refine lC 2 ?_;rw[lB];go_upto_region 5 with (first
  | (at_next;refine Z0q rfl (.tmp 10) rfl _ mb _ _ rfl hI3.out (fun h=>by cases h) ?_;intro pre p post w4 hl hI4 hT4 hen)
  | fail)
 obtain⟨rfl,rfl,rfl⟩:pre=[]/\p=(Value.agg dc.toArray,Value.agg cz.toArray)/\post=[]:=by
  cases pre with
  | nil=>injection hl with h1 h2;exact⟨rfl,h1.symm,h2.symm⟩
  | cons q r=>exfalso;injection hl with h1 h2;cases r <;> simp at h2
 have hb14:Below w1.heap.size w1 w4:=hb3.out.trans (hT4.below hb3.out.size (fun i hi=>by simp at hi;omega));have hb04:=hb1.trans (hb14.mono hb1.size);have hZ4:=hZ1.out.below hb14 hZ1.out.lt;clear hl hI3 hb3 hT4 hb1 hb14 hZ1;replace hI4:=iD hI4;replace hb04:=iD hb04;replace hZ4:=iD hZ4;go_upto_region 6 with (first
  | (refine Zd rfl 59 (.tmp 6) (.tmp 14) rfl w4.heap.size dc rfl rfl 59 Z2 ((Blk.new_at rfl).alloc _) (by rw[hdcl];rfl) hdz.out hdo.out ?_;go_frame)
  | (refine Zd rfl 154 (.tmp 7) (.tmp 15) rfl (w4.heap.size+1) cz rfl rfl 154 [.slice none 0 0,.string ⟨#[]⟩,.string ⟨#[]⟩,.slice none 0 0] (Blk.setRow_far (cs:=[.slice none 0 0,.string ⟨#[]⟩,.string ⟨#[]⟩,.slice none 0 0]) (Blk.new_at (by simp)) (by omega) _) (by rw[hcl];rfl) hcsz.out hco.out ?_;go_frame)
  | fail)
 generalize hW5:lD (lD _ w4.heap.size _) (w4.heap.size+1) _=w5;have hD5:Blk w5 w4.heap.size 59 dc:=by rw[<-hW5];exact (((Blk.new_at (cs:=Z2) rfl).alloc (.cells #[.slice none 0 0,.string ⟨#[]⟩,.string ⟨#[]⟩,.slice none 0 0] 154)).setRow_same dc).setRow_far (by omega) cz.toArray
 have hC5:Blk w5 (w4.heap.size+1) 154 cz:=by rw[<-hW5];exact ((Blk.new_at (cs:=[.slice none 0 0,.string ⟨#[]⟩,.string ⟨#[]⟩,.slice none 0 0]) (by simp)).setRow_far (by omega) _).setRow_same cz
 have hb5:Below w4.heap.size w4 w5:=by rw[<-hW5];exact below_setRow (below_setRow (bL.alloc (by simp) _) (lG _) dc.toArray) (by omega) cz.toArray
 have hI5:=hI4.out.kept (hb5.block _ hI4.out.map.lt) (hb5.block _ hI4.out.lt);have hb05:=hb04.out.trans (hb5.mono hb04.out.size);have hZ5:=hZ4.out.below hb5 hZ4.out.lt;have hz4:=hb04.out.size;have c0:w5.cell? ⟨w4.heap.size+1,0,none⟩=some Z0:=by
  rw[hC5.cell 0,hc0]
 clear hW5 hI4 hb04 hen hb5 hZ4;replace hD5:=iD hD5;replace hC5:=iD hC5;replace hI5:=iD hI5;replace hb05:=iD hb05;replace hZ5:=iD hZ5;go_wp2_with fail;refine (hcn.out _ _ _ _).mono ?_;rintro e w6 ⟨rfl,hb6⟩;have hI6:=hI5.out.kept (hb6.block _ hI5.out.map.lt) (hb6.block _ hI5.out.lt);have hb06:=hb05.out.trans (hb6.mono hb05.out.size);have hZ6:=hZ5.out.below hb6 hZ5.out.lt;have hD6:=hD5.out.below hb6 hD5.out.lt;have hlw:w4.heap.size<w6.heap.size:=hD6.lt;clear hb6 hI5 hb05 hZ5 hD5 hC5 hcn;replace hI6:=iD hI6;replace hb06:=iD hb06;replace hZ6:=iD hZ6;replace hD6:=iD hD6;go_wp2_with (first
  | (refine Zy rfl 59 (.tmp 6) rfl w4.heap.size rfl 59 dc hD6.out _ underlying59 rfl hdz.out ?_;go_frame)
  | (refine Zd rfl 59 (.tmp 4) (.tmp 31) rfl w.heap.size dc rfl rfl 59 Z2 hZ6.out (by rw[hdcl];rfl) hdz.out hdo.out ?_;go_frame)
  | fail)
 have hT7:Touch [w.heap.size] w6 (w6.setRow w.heap.size dc.toArray):=Touch.setRow (by simp) _;have hZ7:=hZ6.out.setRow_same dc;generalize lD w6 w.heap.size dc.toArray=w7 at hT7 hZ7 ⊢;have hI7:=hI6.out.kept (hT7.block _ hI6.out.map.lt (by simp;omega)) (hT7.block _ hI6.out.lt (by simp;omega));have hb07:=hb06.out.trans (hT7.below hb06.out.size (by simp));clear hI6 hb06 hZ6 hD6 hT7 c0;replace hI7:=iD hI7;replace hb07:=iD hb07;replace hZ7:=iD hZ7;rw[lB];go_upto_region 10 with (first
  | (at_next;refine Z0q rfl (.tmp 10) rfl _ mb _ _ rfl hI7.out (fun _=>?_) (fun pre p post w' h=>by cases pre <;> simp at h);go_frame)
  | fail)
 have hM7:=hI7.out.map;have hk7:=hk.out.below hb07.out hk.out.lt;have hB7:=hb.out.below hb07.out hb.out.lt;clear hI7;obtain⟨PS,hPS⟩:∃ PS:World->Prop,∀ y,PS y ↔ Below w7.heap.size w7 y:=⟨_,fun _=>lK⟩;have s2:Hid (∀ w',(∃ y:Cls PS,w'=y.1)->Blk w' w.heap.size 59 dc):=iD (by rintro _ ⟨y,rfl⟩;exact hZ7.out.below ((hPS _).1 y.2) hZ7.out.lt);have hrun:Hid (∀ w',(∃ y:Cls PS,w'=y.1)->(Instr.lookup 190 (.map (some mb)) (.agg dc.toArray) false).run lA w'=.ok (.agg cz.toArray) w'):=iD (by
  rintro _ ⟨y,rfl⟩;exact (hM7.v.below ((hPS _).1 y.2) hM7.lt).look_some Ja underlying190 (by simpa using hdk.out) hdk.out (lN.2 rfl) (by simp) false)
 have s4:PS w7.drew:=(hPS _).2 (lE _ _).drew;haveI : Nonempty (Cls PS):=⟨⟨_,s4⟩⟩;replace hPS:=iD hPS;replace hM7:=iD hM7;replace hk7:=iD hk7;replace hB7:=iD hB7;refine Yh (fun w'=>∃ y:Cls PS,w'=y.1) [] [0,1,2,3] 4 [] (by kernel_rfl) (by kernel_rfl) (fun _ d _ _ _ h=>by cases d <;> exact h) ⟨⟨_,s4⟩,rfl⟩ ?_;simp only[Y4,Z7,lL,lM,Zo,Zn];repeat (first
  | go_big_quiet_step (fail)
  | (refine Yq 59 (.tmp 4) rfl rfl w.heap.size 0 rfl 59 dc dc [] s2.out (by simp) _ underlying59 rfl hdz.out ?_;go_frame)
  | (refine Zc (.lookup 190 (.tmp 34) (.tmp 35) false) rfl rfl (.agg cz.toArray) (fun w' hw'=>Kb 190 (.tmp 34) (.tmp 35) false rfl _ _ _ rfl rfl (hrun.out w' hw')) ?_;go_frame))
 refine lF ?_;go_wp2_with fail;refine (hka.out _ hk7.out.drew (hB7.out.below (lE _ _).drew hB7.out.lt)).mono ?_;rintro e w8 ⟨lb,lc,rest,rfl,hk8,hL8,hB8,hlb,hT8⟩;have hT78:Touch [kb,by_] w7 w8:=(Touch.drewN (L:=[kb,by_]) 1).trans hT8 (fun i hi=>.inl hi);have hz7:=hb07.out.size;have hM8:Y9 w8 mb _:=hM7.out.block (hT78.block _ hM7.out.lt (by simp;exact⟨fun h=>hmk h.symm,fun h=>hne h.symm⟩));have hZ8:=hZ7.out.touch hT78 (by simp;omega);have hlb':w.heap.size<=lb:=lO hz7 (by simpa using hlb);have hT08:Touch [kb,by_,mb] w w8:=(Touch.ofBelow (L:=[kb,by_,mb]) hb07.out).trans hT78 (fun i hi=>.inl (by simp at hi ⊢;rcases hi with h | h <;> simp[h]));clear hka hk7 hB7 hM7 hZ7 hb07 hT8 hT78 hlb s2 hrun hPS;replace hk8:=iD hk8;replace hL8:=iD hL8;replace hB8:=iD hB8;replace hM8:=iD hM8;replace hZ8:=iD hZ8;replace hT08:=iD hT08;go_wp2_with (first
  | (refine Zy rfl 59 (.tmp 4) rfl w.heap.size rfl 59 dc hZ8.out _ underlying59 rfl hdz.out ?_;go_frame)
  | (at_delete;refine Zm2 rfl (.tmp 38) (.tmp 39) rfl _ Ja underlying190 mb _ rfl _ rfl hdk.out hM8.out ?_;intro w9 hM9 hT9;replace hM9:=iD hM9;replace hT9:=iD hT9;go_frame)
  | fail)
 go_returns;have hmL:mb ≠ lb:=by omega
 exact⟨lb,lc,rest,rfl,hk8.out.touch hT9.out (by simpa using hmk),hL8.out.touch hT9.out (by simpa using fun h=>hmL h.symm),(hB8.out.touch hT9.out (by simpa using hne)),hM9.out,hlb',hT08.out.trans hT9.out (fun i hi=>.inl (by simp at hi ⊢;simp[hi]))⟩
end
section
set_option maxRecDepth 100000
set_option maxHeartbeats 16000000
open Go.Lib renaming hid → iD
open Go.Proofs.Tryz
open Go.RowKit Go.Maps Go.MapKept Go.ChangeMaps
theorem Zm5(a t:Str)(ha:Z6 a=true)(ht:t.length<=1000)(ht0:0<t.length)(xs:Str)(hxs:xs=Yk (Ym a t))(sb sc:Nat)(rr:List Value)(r by_ rb g:Nat)(ra:Str)(br:Bool)(d b v:Value)(ok:Nat->Prop)(w:World)(hR:Blk w r 47 (Y1 Z0 by_ rb g ra br))(hB:Blk w rb 267 [d,v,b])(h:TabIs w ok v [])
  (hS:Blk w sb 9 (.string ⟨xs.toArray⟩ :: rr)) (hK:Zm w) :
  Calls lA 127 #[.pointer (some ⟨r,0,none⟩),.slice (some ⟨sb,0,none⟩) 1 sc] w fun e w'=>∃ lb lc rest OA oc,e=.returned (.tuple #[.slice (some ⟨lb,0,none⟩) 1 lc,.slice (some ⟨lb,0,none⟩) 1 lc,.int .i64 0])/\Blk w' lb 154 (Z5 a (.slice OA t.length oc)++rest)/\Zl w' (OpB w') (.slice OA t.length oc) (chain t)/\w.heap.size<=lb/\Below w.heap.size w w':=by
 have hmf:∀ (fn:Fn) (first cap:Array Value) (w:World),(lH fn first cap).run lA w=.ok (.func fn first cap) w:=fun _ _ _ _=>rfl;have hmm:=@run_makeMap lA;have hxl:xs.length<=131072:=by have:=Gl a t ha ht;rw[hxs];omega
 have hcl:(chain t).length=t.length:=Jq t 0;have hdl:=Q4 a t;have hid:idT a t=Y6 xs:=by rw[hxs];rfl
 have hpn:=iD (fun W (hb:Below w.heap.size w W)=>Z2o r by_ rb g ra br d b v ok W (hR.below hb hR.lt) (hB.below hb hB.lt) (h.stayB hb));have hde:=iD (fun A c W hR hc=>Zkq a t ha ht xs hxs A c W hR hxl hc);have hsm:=iD (fun A c W hR hc hK=>Ql xs A c W hR hc (by omega) hK);rw[<-hid] at hsm;have hKb:=iD (fun W (hb:Below w.heap.size w W)=>keys_below hK hb);have hck:=iD (fun o ok lb lc rest W h hK hL=>Zly a t o ok lb lc rest W h ha ht hK hL);obtain⟨ds,hds⟩:∃ ds,ds=idT a t:=⟨_,rfl⟩;rw[<-hds] at hsm hdl;have hw0:=iD Zm3;have hw1:=iD (fun OA on oc mb kb by_ W hM hk hb hne=>Zm4 ds a hdl OA on oc mb kb by_ W hM hk hb hne);have c0:w.cell? ⟨sb,0,none⟩=some (.string ⟨xs.toArray⟩):=hS.cell 0;replace hxs:=iD hxs;replace hds:=iD hds;replace hid:=iD hid;replace hS:=iD hS;clear hR hB h hK;go_enter func127,ntmps127;go_upto_region 2 with fail;generalize hW1:lJ w _=w1;have hM1:Y9 w1 w.heap.size []:=by rw[<-hW1];exact Y9.new_at rfl
 have hb1:Below w.heap.size w w1:=by rw[<-hW1];exact bL
 have c1:w1.cell? ⟨sb,0,none⟩=some (.string ⟨xs.toArray⟩):=(hb1.cell (p:=⟨sb,0,none⟩) hS.out.lt).trans c0;clear hW1 c0;replace hM1:=iD hM1;replace hb1:=iD hb1;go_wp2_with fail;refine lC 2 ?_;rw[lB];go_upto_region 5 with fail;clear c1;go_wp2_with (first
  | (refine Z0s rfl (.tmp 27) rfl xs rfl ?_;intro w2 c2 hb2 hsz2 hc2 hR2;replace hR2:=iD hR2;replace hb2:=iD hb2;go_frame)
  | fail)
 refine (hde.out _ _ w2 (hR2.out.weak (fun b hlt _=>hlt)) hc2).mono ?_;rintro e w3 ⟨V3,rfl,hV3,hb3⟩;obtain⟨OA,oc,rfl,hoc,_⟩:=Za hV3;obtain⟨vb,vr,rfl,hvb,hvB,_⟩:=Uo hV3 ht0;have hb13:=hb2.out.trans (hb3.mono hb2.out.size);have hb03:=hb1.out.trans (hb13.mono hb1.out.size);have hvlt:=hvB.lt;have hv3:Blk w3 vb 278 _:=hvB;have hvgt:w.heap.size<vb:=by have:=hb1.out.size;omega
 have hO3:Zl w3 (vb = ·) (.slice (some ⟨vb,0,none⟩) t.length oc) (chain t):=⟨_,oc,by rw[hcl],by rw[hcl];exact hoc,Rd.of_blk (r:=vr) hvB rfl rfl⟩;have hM3:=hM1.out.below hb13 hM1.out.lt;clear hV3 hvB hb3 hR2 hb2 hM1 hb1 hb13 hde;replace hO3:=iD hO3;replace hv3:=iD hv3;replace hb03:=iD hb03;replace hM3:=iD hM3;obtain⟨cz,hcz⟩:∃ cz,cz=Z5 a (.slice (some ⟨vb,0,none⟩) t.length oc):=⟨_,rfl⟩;have hczl:cz.length=4:=by rw[hcz];rfl
 have hcsz:(lA.info? 154).map (·.size)=some cz.length:=by rw[hcz];exact Ky _ _
 have hco:∀ v ∈ cz,v.oneCell'=true:=by rw[hcz];simp[Z5,lI]
 have hw1':=iD (fun mb kb by_ W=>hw1.out (some ⟨vb,0,none⟩) t.length oc mb kb by_ W);have hck':=iD (fun ok=>hck.out (.slice (some ⟨vb,0,none⟩) t.length oc) ok);rw[<-hcz] at hw1' hck' ⊢;clear hw1 hck;replace hcz:=iD hcz;replace hcsz:=iD hcsz;replace hco:=iD hco;go_upto_region 8 with (first
  | (refine Zd rfl 154 (.tmp 10) (.tmp 30) rfl w3.heap.size cz rfl rfl 154 [.slice none 0 0,.string ⟨#[]⟩,.string ⟨#[]⟩,.slice none 0 0] (Blk.new_at (cs:=[.slice none 0 0,.string ⟨#[]⟩,.string ⟨#[]⟩,.slice none 0 0]) rfl) (by rw[hczl];rfl) hcsz.out hco.out ?_;go_frame)
  | fail)
 generalize hW4:lD _ w3.heap.size cz.toArray=w4;have hC4:Blk w4 w3.heap.size 154 cz:=by rw[<-hW4];exact (Blk.new_at (cs:=[.slice none 0 0,.string ⟨#[]⟩,.string ⟨#[]⟩,.slice none 0 0]) rfl).setRow_same cz
 have hb4:Below w3.heap.size w3 w4:=by rw[<-hW4];exact below_setRow bL (lG _) cz.toArray
 have hM4:=hM3.out.below hb4 hM3.out.lt;have hO4:=hO3.out.stayB hb4;have hv4:=iD (hv3.out.below hb4 hvlt);have hb04:=hb03.out.trans (hb4.mono hb03.out.size);have hz34:=hb4.size;clear hW4 hM3 hO3 hb03 hb4;obtain⟨PS,hPS⟩:∃ PS:World->Prop,∀ y,PS y ↔ Below w4.heap.size w4 y:=⟨_,fun _=>lK⟩;have s2:Hid (∀ w',(∃ y:Cls PS,w'=y.1)->Blk w' w3.heap.size 154 cz):=iD (by rintro _ ⟨y,rfl⟩;exact hC4.below ((hPS _).1 y.2) hC4.lt);have s4:PS w4.drew:=(hPS _).2 (lE _ _).drew;haveI : Nonempty (Cls PS):=⟨⟨_,s4⟩⟩;replace hPS:=iD hPS;replace hM4:=iD hM4;replace hC4:=iD hC4;replace hO4:=iD hO4;replace hb04:=iD hb04;refine Yh (fun w'=>∃ y:Cls PS,w'=y.1) [([0,1,4],2),([],3)] [] 5 [] (by kernel_rfl) (by kernel_rfl) (fun _ d _ _ _ h=>by cases d <;> exact h) ⟨⟨_,s4⟩,rfl⟩ ?_;simp only[Y4,Z7,lL,lM,Zo,Zn];repeat (first
  | go_big_quiet_step (fail)
  | (refine Yq 154 (.tmp 10) rfl rfl w3.heap.size 0 rfl 154 cz cz [] s2.out (by simp) _ underlying154 rfl hcsz.out ?_;go_frame))
 refine lF ?_;intro K hK;refine Js _ rfl (.tmp 35) rfl xs rfl ?_;intro w5 c5 hb5 hsz5 hc5 hR5;have hb45:=(lE _ _).drew.trans hb5;refine hK _ _ ⟨⟨_,(hPS.out _).2 hb45⟩,rfl⟩ ?_;clear hK;refine lF ?_;intro K hK;go_simp;have hb05:=hb04.out.trans (hb45.mono hb04.out.size);refine (hsm.out _ _ _ (hR5.weak (fun b hlt _=>hlt)) hc5 (hKb.out _ hb05)).mono ?_;rintro e w6 ⟨rfl,hb6⟩;have hb46:Below w4.heap.size w4 w6:=hb45.trans (hb6.mono hb45.size);refine hK _ _ ⟨⟨_,(hPS.out _).2 hb46⟩,rfl⟩ ?_;clear hK;refine lF ?_;have hM6:=hM4.out.below hb46 hM4.out.lt;have hO6:=hO4.out.stayB hb46;have hv6:=hv4.out.below hb46 hv4.out.lt;have hb06:=hb04.out.trans (hb46.mono hb04.out.size);have hdk:Ue (.agg (ds.map B).toArray):=Xs ds hdl;obtain⟨w7,hrun7,hM7,hT7⟩:=hM6.store Ja underlying190 (by simp) hdk (by simp) (.agg cz.toArray);have hT7':=Kz hT7;have hz46:=hb46.size;have hz67:=hT7'.size;have hz6:=hb06.size;have hb07:=hb06.trans (hT7'.below hz6 (by simp));have hO7:Zl w7 _ _ _:=hO6.stay (ok':=(vb = ·)) (fun b hb hlt=>hT7'.block b hlt (by subst hb;simp;omega)) (fun b hb _=>hb);have hv7:=iD (hv6.touch hT7' (by simp;omega));clear hPS s2 s4 hsm hM4 hC4 hO4 hb04 hb05 hb45 hb46 hb5 hb6 hR5 hM6 hO6 hb06 hT7 hT7' this PS hdk;replace hM7:=iD hM7;replace hO7:=iD hO7;replace hb07:=iD hb07;refine Ob rfl (Oa 190 (.tmp 34) (.tmp 37) (.tmp 38) rfl _ _ _ rfl rfl rfl hrun7) ?_;clear hrun7;go_frame;refine wpList_nil ?_;go_wp2_with fail;rw[lB];go_upto_region 11 with fail;generalize hW8:lJ (w7.alloc _) (Obj.cells _ 43)=w8;have hb8:Below w7.heap.size w7 w8:=by rw[<-hW8];exact bL.alloc (by simp) _
 have hk8:Blk w8 (w7.heap.size+1) 43 [Z0,.map (some w7.heap.size)]:=by rw[<-hW8];exact Blk.new_at (cs:=[Z0,.map (some w7.heap.size)]) (by simp)
 have hB8:Z8 w8 w7.heap.size []:=by rw[<-hW8];exact (Z8.new_at rfl).alloc _
 have hM8:=hM7.out.below hb8 hM7.out.lt;have hO8:=hO7.out.stayB hb8;have hv8:=iD (hv7.out.below hb8 hv7.out.lt);have hb08:=hb07.out.trans (hb8.mono hb07.out.size);have hz7:=hb07.out.size;have hlt7:=hM7.out.lt;clear hW8 hM7 hO7 hb07 hb8;replace hk8:=iD hk8;replace hB8:=iD hB8;replace hM8:=iD hM8;replace hO8:=iD hO8;replace hb08:=iD hb08;go_wp2_with fail;refine (hpn.out _ hb08.out).mono ?_;rintro e w9 ⟨rfl,hb9⟩;have hk9:=hk8.out.below hb9 hk8.out.lt;have hB9:=hB8.out.below hb9 hB8.out.lt;have hM9:=hM8.out.below hb9 hM8.out.lt;have hO9:=hO8.out.stayB hb9;have hv9:=iD (hv8.out.below hb9 hv8.out.lt);have hb09:=hb08.out.trans (hb9.mono hb08.out.size);have k0:w9.cell? ⟨w7.heap.size+1,0,none⟩=some Z0:=hk9.cell 0;clear hpn hk8 hB8 hM8 hO8 hb08 hb9;replace hk9:=iD hk9;replace hB9:=iD hB9;replace hM9:=iD hM9;replace hO9:=iD hO9;replace hb09:=iD hb09;go_wp2_with fail;refine lC 1 ?_;rw[lB];go_wp2_with fail;refine lC 2 ?_;rw[lB];go_wp2_with fail;clear k0;refine (hw1'.out _ _ _ _ hM9.out hk9.out hB9.out (by omega)).mono ?_;rintro e w10 ⟨lb,lc,rest,rfl,hk10,hL10,hB10,hM10,hlb,hT10⟩;have hO10:Zl w10 (vb = ·) _ _:=hO9.out.stay (fun b hb hlt=>hT10.block b hlt (by subst hb;simp;omega)) (fun b hb _=>hb);have hv10:=iD (hv9.out.touch hT10 (by simp;omega));have hb010:=hb09.out.trans (hT10.below hb09.out.size (by simp;omega));have hlb':w.heap.size<=lb:=lO hb09.out.size hlb;clear hk9 hB9 hM9 hO9 hb09 hT10 hB10 hw1';replace hk10:=iD hk10;replace hL10:=iD hL10;replace hM10:=iD hM10;replace hO10:=iD hO10;replace hb010:=iD hb010;go_wp2_with fail;rw[lB];go_wp2_with fail;refine (hw0.out _ _ _ hM10.out).mono ?_;rintro e w11 ⟨rfl,hb11⟩;have hk11:=hk10.out.below hb11 hk10.out.lt;have hL11:=hL10.out.below hb11 hL10.out.lt;have hM11:=hM10.out.below hb11 hM10.out.lt;have hO11:=hO10.out.stayB hb11;have hv11:=iD (hv10.out.below hb11 hv10.out.lt);have hb011:=hb010.out.trans (hb11.mono hb010.out.size);have hlen:=fun ty=>hM11.v.len underlying190 ty;have k0:w11.cell? ⟨w7.heap.size+1,0,none⟩=some (.slice (some ⟨lb,0,none⟩) 1 lc):=hk11.cell 0;have hckc:=iD (hck'.out _ lb lc _ w11 hO11 (hKb.out _ hb011) hL11);clear hk10 hL10 hM10 hO10 hb010 hb11 hM11 hck' hw0;replace hk11:=iD hk11;replace hL11:=iD hL11;replace hO11:=iD hO11;replace hb011:=iD hb011;go_wp2_with fail;refine hckc.out.mono ?_;rintro e w12 ⟨rfl,hb12⟩;have hk12:=hk11.out.below hb12 hk11.out.lt;have hL12:=hL11.out.below hb12 hL11.out.lt;have hO12:=hO11.out.stayB hb12;have hv12:=iD (hv11.out.below hb12 hv11.out.lt);have hb012:=hb011.out.trans (hb12.mono hb011.out.size);clear hk11 hL11 hO11 hb011 hb12 hckc hlen k0;replace hL12:=iD hL12;replace hO12:=iD hO12;replace hb012:=iD hb012;go_upto_region 24 with fail;obtain⟨PS,hPS⟩:∃ PS:World->Prop,∀ y,PS y ↔ y=w12.drew:=⟨_,fun _=>lK⟩;have s1:∀ y:Cls PS,y.1.cell? ⟨w7.heap.size+1,0,none⟩=some (.slice (some ⟨lb,0,none⟩) 1 lc):=fun y=>by rw[(hPS _).1 y.2];exact hk12.drew.cell 0
 have s4:PS w12.drew:=(hPS _).2 rfl;haveI : Nonempty (Cls PS):=⟨⟨_,s4⟩⟩;replace hPS:=iD hPS;clear hk12;refine Yh (fun w'=>∃ y:Cls PS,w'=y.1) [] [0,1,2,3,4,5,6,7,8] 9 [] (by kernel_rfl) (by kernel_rfl) (fun _ d _ _ _ h=>by cases d <;> exact h) ⟨⟨_,s4⟩,rfl⟩ ?_;simp only[Y4,Z7,lL,lM,Zo,Zn];repeat (first
  | go_big_quiet_step (fail))
 refine lF ?_;go_wp2_with fail;go_returns;refine⟨lb,lc,rest,some ⟨vb,0,none⟩,oc,rfl,?_,(hO12.out.stay (ok':=OpB w12.drew) (fun b _ hlt=>?_) (fun b hb _=>?_)),hlb',hb012.out.trans ((lE _ _).drew.mono hb012.out.size)⟩
 ·rw[<-hcz.out];exact hL12.out.drew
 ·rfl
 ·subst hb;exact⟨_,hv12.out.drew⟩
end
section
set_option maxRecDepth 100000
set_option maxHeartbeats 16000000
open Go.Lib renaming hid → iD
open Go.Proofs.Tryz
open Go.RowKit
theorem Zm6(ra a t n:Str)(hn:Z6 n=true)(ha:Z6 a=true)(ht:t.length<=1000)(h0:t ≠ [])(ps:Str)(hps:ps=Xb (Yk (Ym a t))){w0:World}{base:Nat->Prop}{g rb:Nat}{S:DS}{v:Value}{w:World}(h:Ref w0 base rb g v S [] w)(hS:Live S none)(hroom:1000000<=S.room)(r by_:Nat)(hR:Blk w r 47 (Y1 Z0 by_ rb g ra false))(hr:base r)
  (hky:∀ W,Stay base w0 W->Zm W) (pb rc cc ab cb hb hc:Nat) (ri:List Value) (ah:Bool) (hpb:Blk w pb 9 [.string ⟨ps.toArray⟩]) (hrc:Blk w rc 31 [.pointer (some ⟨r,0,none⟩)]) (hcc:Blk w cc 178 [.slice (some ⟨cb,0,none⟩) 1 1]) (hab:Blk w ab 4 [.bool ah])
  (hC:Blk w cb 177 [Z1 n,Z0,.slice (some ⟨hb,0,none⟩) 1 hc]) (hH:Blk w hb 59 ((idT a t).map B++ri)) (hhc:1<=hc) :
  Calls lA 125 #[.pointer (some ⟨pb,0,none⟩),.pointer (some ⟨rc,0,none⟩),.pointer (some ⟨cc,0,none⟩),.pointer (some ⟨ab,0,none⟩)] w fun e w'=>e=.returned (.int .i64 0)/\KeepsR w w'/\OneSt w0 base w.heap.size g rb r ra a t n w':=by
 have hdl:=Q4 a t;have ht0:0<t.length:=List.length_pos_iff.2 h0;obtain⟨xs,hxs⟩:∃ xs,xs=Yk (Ym a t):=⟨_,rfl⟩;have hxl:xs.length<=131072:=by have:=Gl a t ha ht;rw[hxs];omega
 have hK:Zm w:=hky w h.bel;have hpr:=iD (Zkw xs hxl w hK);rw[<-hxs] at hps;rw[<-hps] at hpr;have hwi:=iD (fun sb sc rr W (hb:Below w.heap.size w W) hS=>Zm5 a t ha ht ht0 xs hxs sb sc rr r by_ rb g ra false _ _ v _ W (hR.below hb hR.lt) (h.below hb).ref (h.below hb).own.tab hS (keys_below hK hb));have hno:=iD (fun o ok lb lc rest W hO hK hL=>Zav a t o ok lb lc rest W hO ha ht hK hL);have htu:=iD (fun u W (hb:Below w.heap.size w W) OA oc hO fb fc rest hF hC=>Zat (u:=u) ra a t n hn ha ht h0 (h.below hb) hS hroom r by_ (hR.below hb hR.lt) hr OA oc hO fb fc rest hF hC hky);have hKb:=iD (fun W (hb:Below w.heap.size w W)=>keys_below hK hb);obtain⟨ds,hds⟩:∃ ds,ds=idT a t:=⟨_,rfl⟩;rw[<-hds] at hno hH htu hdl;have p0:w.cell? ⟨pb,0,none⟩=some (.string ⟨ps.toArray⟩):=hpb.cell 0;replace hpb:=iD hpb;replace hrc:=iD hrc;replace hcc:=iD hcc;replace hab:=iD hab;replace hC:=iD hC;replace hH:=iD hH;replace hxs:=iD hxs;replace hps:=iD hps;replace hds:=iD hds;replace hS:=iD hS;clear hroom hky hR h hK;go_enter func125,ntmps125;go_wp2_with fail;refine hpr.out.mono ?_;rintro e w1 ⟨PA,pc,rfl,hP1,hb1⟩;obtain⟨sb,sr,rfl,_,hS1,_⟩:=Uo hP1 (by omega);have r0:w1.cell? ⟨rc,0,none⟩=some (.pointer (some ⟨r,0,none⟩)):=(hrc.out.below hb1 hrc.out.lt).cell 0;have hwi1:=iD (hwi.out sb pc sr w1 hb1 hS1);clear p0 hpr hP1 hS1 hwi;replace hb1:=iD hb1;go_wp2_with fail;refine hwi1.out.mono ?_;rintro e w2 ⟨lb,lc,rest,OA,oc,rfl,hL2,hO2,hlb,hb2⟩;have hb02:=hb1.out.trans (hb2.mono hb1.out.size);have hno2:=iD (hno.out _ _ lb lc rest w2 hO2 (hKb.out _ hb02) hL2);clear r0 hwi1 hb1 hb2 hno hKb;replace hL2:=iD hL2;replace hO2:=iD hO2;replace hb02:=iD hb02;go_wp2_with fail;refine hno2.out.mono ?_;rintro e w3 ⟨nd,cap,pa,pq,rs,rfl,hN3,hnd,hb3⟩;have hb03:=hb02.out.trans (hb3.mono hb02.out.size);have hL3:=hL2.out.below hb3 hL2.out.lt;have hO3:=(KeepsR.below hb3).opb hO2.out;have c0:w3.cell? ⟨cc,0,none⟩=some (.slice (some ⟨cb,0,none⟩) 1 1):=(hcc.out.below hb03 hcc.out.lt).cell 0;have hC3:=hC.out.below hb03 hC.out.lt;clear hno2 hb02 hb3 hL2 hO2;replace hL3:=iD hL3;replace hO3:=iD hO3;replace hb03:=iD hb03;replace hC3:=iD hC3;replace hN3:=iD hN3;obtain⟨cz,hcz⟩:∃ cz,cz=[Z1 n,Z0,.slice (some ⟨hb,0,none⟩) 1 hc]:=⟨_,rfl⟩;have hczl:cz.length=3:=by rw[hcz];rfl
 have hcsz:Hid ((lA.info? 177).map (·.size)=some cz.length):=iD (by rw[hczl];exact U9);have hco:Hid (∀ v ∈ cz,v.oneCell'=true):=iD (by rw[hcz];simp[lI,Z1]);have hz1:cz[1]?=some Z0:=by rw[hcz];rfl
 have hz2:cz[2]?=some (.slice (some ⟨hb,0,none⟩) 1 hc):=by rw[hcz];rfl
 rw[<-hcz] at hC3;replace hcz:=iD hcz;go_wp2_with fail;refine lC 2 ?_;rw[lB];go_upto_region 13 with (first
  | (refine Zy rfl 177 (.tmp 46) rfl cb rfl 177 cz hC3.out _ underlying177 rfl hcsz.out ?_;go_frame)
  | (refine Zd rfl 177 (.tmp 11) (.tmp 47) rfl w3.heap.size cz rfl rfl 177 [.string ⟨#[]⟩,.slice none 0 0,.slice none 0 0] (Blk.new_at (cs:=[.string ⟨#[]⟩,.slice none 0 0,.slice none 0 0]) rfl) (by rw[hczl];rfl) hcsz.out hco.out ?_;go_frame)
  | fail)
 generalize hW4:lD _ w3.heap.size cz.toArray=w4;have hX4:Blk w4 w3.heap.size 177 cz:=by rw[<-hW4];exact (Blk.new_at (cs:=[.string ⟨#[]⟩,.slice none 0 0,.slice none 0 0]) rfl).setRow_same cz
 have hb4:Below w3.heap.size w3 w4:=by rw[<-hW4];exact below_setRow bL (lG _) cz.toArray
 have hb04:=hb03.out.trans (hb4.mono hb03.out.size);have hL4:=hL3.out.below hb4 hL3.out.lt;have hO4:=(KeepsR.below hb4).opb hO3.out;have hN4:=hN3.out.below hb4 hN3.out.lt;have hH4:=hH.out.below hb04 hH.out.lt;have x2:w4.cell? ⟨w3.heap.size,2,none⟩=some (.slice (some ⟨hb,0,none⟩) 1 hc):=by rw[hX4.cell 2,hz2]
 have hhe:=iD (Zld ds hdl nd cap hb hc pa pq rs ri w4 hN4 hH4);clear hW4 c0 hL3 hO3 hN3 hb03 hb4 hC3;replace hX4:=iD hX4;replace hb04:=iD hb04;replace hL4:=iD hL4;replace hO4:=iD hO4;replace hN4:=iD hN4;replace hH4:=iD hH4;go_wp2_with fail;refine hhe.out.mono ?_;rintro e w5 ⟨HA,hcp,rfl,hrow5,hb5⟩;obtain⟨qb,qr,rfl,_,hQ5,hqc⟩:=Uo hrow5 (by omega);have hb05:=hb04.out.trans (hb5.mono hb04.out.size);have hL5:=hL4.out.below hb5 hL4.out.lt;have hO5:=(KeepsR.below hb5).opb hO4.out;have hN5:=hN4.out.below hb5 hN4.out.lt;have hH5:=hH4.out.below hb5 hH4.out.lt;have hX5:=hX4.out.below hb5 hX4.out.lt;have x2':w5.cell? ⟨w3.heap.size,2,none⟩=some (.slice (some ⟨hb,0,none⟩) 1 hc):=by rw[hX5.cell 2,hz2]
 have hfd:HFit [ds]:=⟨by simp,fun d hd=>by rw[lN.1 hd];exact hdl⟩;have heq:=iD (Z20 [ds] [ds] (.slice (some ⟨qb,0,none⟩) 1 hcp) (.slice (some ⟨hb,0,none⟩) 1 hc) _ _ w5 ⟨_,_,rfl,hqc,Rd.of_blk (ok:=fun _=>True) (r:=qr) hQ5 (by simp[Zv]) trivial⟩ ⟨_,_,rfl,hhc,Rd.of_blk (ok:=fun _=>True) (r:=ri) hH5 (by simp[Zv]) trivial⟩ hfd hfd);clear x2 hhe hrow5 hX4 hb04 hL4 hO4 hN4 hH4 hb5 hQ5;replace hX5:=iD hX5;replace hb05:=iD hb05;replace hL5:=iD hL5;replace hO5:=iD hO5;replace hN5:=iD hN5;replace hH5:=iD hH5;go_wp2_with fail;refine heq.out.mono ?_;rintro e w6 ⟨rfl,hb6⟩;have hb06:=hb05.out.trans (hb6.mono hb05.out.size);have hL6:=hL5.out.below hb6 hL5.out.lt;have hO6:=(KeepsR.below hb6).opb hO5.out;have hN6:=hN5.out.below hb6 hN5.out.lt;have hH6:=hH5.out.below hb6 hH5.out.lt;have hX6:=hX5.out.below hb6 hX5.out.lt;have x1:w6.cell? ⟨w3.heap.size,1,none⟩=some Z0:=by rw[hX6.cell 1,hz1]
 have x2:w6.cell? ⟨w3.heap.size,2,none⟩=some (.slice (some ⟨hb,0,none⟩) 1 hc):=by rw[hX6.cell 2,hz2]
 have hwt:=iD (Zlh ds hdl nd cap hb hc pa pq rs ri none 0 w6 hN6 hH6);clear x2' heq hX5 hb05 hL5 hO5 hN5 hH5 hb6 hN6 hX6 hH6;replace hb06:=iD hb06;replace hL6:=iD hL6;replace hO6:=iD hO6;go_wp2_with fail;refine hwt.out.mono ?_;rintro e w7 ⟨rfl,hb7⟩;have hb07:=hb06.out.trans (hb7.mono hb06.out.size);have hL7:=hL6.out.below hb7 hL6.out.lt;have hO7:=(KeepsR.below hb7).opb hO6.out;have hC7:=hC.out.below hb07 hC.out.lt;have hH7:=hH.out.below hb07 hH.out.lt;have a0:w7.cell? ⟨ab,0,none⟩=some (.bool ah):=(hab.out.below hb07 hab.out.lt).cell 0;have r7:w7.cell? ⟨rc,0,none⟩=some (.pointer (some ⟨r,0,none⟩)):=(hrc.out.below hb07 hrc.out.lt).cell 0;have c7:w7.cell? ⟨cc,0,none⟩=some (.slice (some ⟨cb,0,none⟩) 1 1):=(hcc.out.below hb07 hcc.out.lt).cell 0;have hchs:Yx w7 (Fr w7) (.slice (some ⟨cb,0,none⟩) 1 1) (Q5 n ds):=by
  refine⟨_,1,[(Z0,.slice (some ⟨hb,0,none⟩) 1 hc)],rfl,rfl,lG _,Rd.of_blk (r:=[]) hC7 rfl ⟨_,_,hC7,by decide,by decide,by decide,by decide⟩,fun k b u e1 e2=>?_⟩
  match k,e1,e2 with
  | 0,e1,e2 =>
   simp only[List.getElem?_cons_zero,Option.some.injEq] at e1 e2;subst e1;subst e2;exact⟨Ze.nil,⟨_,_,rfl,hhc,Rd.of_blk (r:=ri) hH7 (by simp[Zv]) ⟨_,_,hH7,by decide,by decide,by decide,by decide⟩⟩⟩
 have htu7:=iD (htu.out _ w7 hb07 OA oc hO7.fr lb lc rest hL7 hchs);clear x1 x2 hwt hb06 hL6 hO6 hb7 hL7 hO7 hC7 hH7 hchs htu hcc hrc hab hC hH;replace hb07:=iD hb07;cases ah
 all_goals
  go_wp2_with fail;rw[lB];go_wp2_with fail;refine htu7.out.mono ?_;rintro e w8 ⟨rfl,hk8,hst8⟩;go_wp2_with fail;go_returns;exact⟨rfl,(KeepsR.below hb07.out).trans hk8,hst8.lower hb07.out.size⟩
theorem Zm7{w0:World}{base:Nat->Prop}{g rb r ob:Nat}(ra a t n:Str){w:World}(l:Value)(by_:Nat)(f:Value)(hR:Blk w r 47 (Y1 l by_ rb g ra false))(caps:Array Value)
  (hf:f=.func (.func 125) #[] caps) (hc1:Calls lA 125 caps w fun e w'=>e=.returned (.int .i64 0)/\KeepsR w w'/\OneSt w0 base ob g rb r ra a t n w') :
  Calls lA 88 #[.pointer (some ⟨r,0,none⟩),f] w fun e w'=>e=.returned (.int .i64 0)/\KeepsR w w'/\OneSt w0 base ob g rb r ra a t n w':=by
 have hm:=Gi r l by_ rb g ra false w hR;have r5:w.cell? ⟨r,5,none⟩=some (.bool false):=hR.cell 5;subst hf;clear hR;go_enter func88,ntmps88;go_wp2_with fail;refine hm.mono ?_;rintro e w1 ⟨rfl,rfl⟩;go_wp2_with fail;refine hc1.mono ?_;rintro e w2 ⟨rfl,hk2,h2⟩;obtain⟨lb,lc,rest,by',V,v',S',hR2,_⟩:=h2.st;have q5:w2.cell? ⟨r,5,none⟩=some (.bool false):=hR2.cell 5;have f5:=hR2.frozen 5;have hid5:w2.setCell ⟨r,5,none⟩ (.bool false)=w2:=Z5i hR2 rfl;clear hR2 hc1;replace hk2:=iD hk2;replace h2:=iD h2;clear r5;go_wp2_with fail;go_returns;exact⟨rfl,hk2.out,h2.out⟩
theorem Zm8(ra a t n:Str)(hn:Z6 n=true)(ha:Z6 a=true)(ht:t.length<=1000)(h0:t ≠ [])(ps:Str)(hps:ps=Xb (Yk (Ym a t))){w0:World}{base:Nat->Prop}{g rb:Nat}{S:DS}{v:Value}{w:World}(h:Ref w0 base rb g v S [] w)(hS:Live S none)(hroom:1000000<=S.room)(r by_:Nat)(hR:Blk w r 47 (Y1 Z0 by_ rb g ra false))(hr:base r)
  (hky:∀ W,Stay base w0 W->Zm W) (cb hb hc:Nat) (ri:List Value) (ah:Bool) (hC:Blk w cb 177 [Z1 n,Z0,.slice (some ⟨hb,0,none⟩) 1 hc]) (hH:Blk w hb 59 ((idT a t).map B++ri)) (hhc:1<=hc) :
  Calls lA 40 #[.pointer (some ⟨r,0,none⟩),.string ⟨ps.toArray⟩,.slice (some ⟨cb,0,none⟩) 1 1,.bool ah] w fun e w'=>e=.returned (.int .i64 0)/\KeepsR w w'/\OneSt w0 base w.heap.size g rb r ra a t n w':=by
 have hmf:∀ (fn:Fn) (first cap:Array Value) (w:World),(lH fn first cap).run lA w=.ok (.func fn first cap) w:=fun _ _ _ _=>rfl;generalize hW:((((w.alloc (.cells #[.pointer (some ⟨r,0,none⟩)] 31)).alloc (.cells #[.string ⟨ps.toArray⟩] 9)).alloc (.cells #[.slice (some ⟨cb,0,none⟩) 1 1] 178)).alloc (.cells #[.bool ah] 4))=w1;have hb1:Below w.heap.size w w1:=by rw[<-hW];exact ((bL.alloc (by simp) _).alloc (by simp;omega) _).alloc (by simp;omega) _
 have h1r:Blk w1 w.heap.size 31 [.pointer (some ⟨r,0,none⟩)]:=by rw[<-hW];exact (((Blk.new_at (cs:=[_]) rfl).alloc _).alloc _).alloc _
 have h1p:Blk w1 (w.heap.size+1) 9 [.string ⟨ps.toArray⟩]:=by rw[<-hW];exact ((Blk.new_at (cs:=[_]) (by simp)).alloc _).alloc _
 have h1c:Blk w1 (w.heap.size+2) 178 [.slice (some ⟨cb,0,none⟩) 1 1]:=by rw[<-hW];exact (Blk.new_at (cs:=[_]) (by simp)).alloc _
 have h1a:Blk w1 (w.heap.size+3) 4 [.bool ah]:=by rw[<-hW];exact Blk.new_at (cs:=[_]) (by simp)
 have q0:w1.cell? ⟨w.heap.size,0,none⟩=some (.pointer (some ⟨r,0,none⟩)):=h1r.cell 0;have hR1:=hR.below hb1 hR.lt;have hwr:=iD (fun f hf=>Zm7 ra a t n Z0 by_ f hR1 _ hf (Zm6 ra a t n hn ha ht h0 ps hps (h.below hb1) hS hroom r by_ hR1 hr hky _ _ _ _ cb hb hc ri ah h1p h1r h1c h1a (hC.below hb1 hC.lt) (hH.below hb1 hH.lt) hhc));clear h1r h1p h1c h1a hR1 h hR hC hH;replace hps:=iD hps;go_enter func40,ntmps40;go_wp2_with fail;clear hW q0;refine (hwr.out _ rfl).mono ?_;rintro e w3 ⟨rfl,hk3,h3⟩;replace hk3:=iD hk3;replace h3:=iD h3;go_wp2_with fail;go_returns;exact⟨rfl,(KeepsR.below hb1).trans hk3.out,h3.out.lower hb1.size⟩
end
section
set_option maxRecDepth 100000
set_option maxHeartbeats 2000000
open Go.Lib renaming hid → iD
open Go.Proofs.Tryz
open Go.RowKit
theorem Zax(r:Nat)(l:Value)(by_ rb g:Nat)(a:Str)(br:Bool)(d b v:Value)(T:Tab)(ok:Nat->Prop)(w:World)(hR:Blk w r 47 (Y1 l by_ rb g a br))(hB:Blk w rb 267 [d,v,b])(h:TabIs w ok v T)(hf:TFit T)(hs:J4 T)(hg:Yb T []=[]) :
  Calls lA 51 #[.pointer (some ⟨r,0,none⟩)] w fun e w'=>e=.returned (.bool true)/\Below w.heap.size w w':=by
 have ht:=iD (Ziu r l by_ rb g a [] br d b v T ok w hR hB h hf hs hg);unfold Z1 at ht;clear hR hB h;go_enter func51,ntmps51;go_wp2_with fail;refine ht.out.mono ?_;rintro e w1 ⟨rfl,hb1⟩;go_wp2_with fail;go_returns;exact⟨rfl,hb1⟩
theorem Zm9(A:Option Addr)(c:Nat)(w:World):Calls lA 142 #[.slice A 0 c] w fun e w'=>e=.returned (.slice A 0 c)/\w'=w:=by
 go_enter func142,ntmps142;go_wp2_with fail;go_returns;exact⟨rfl,rfl⟩
theorem Zma(r:Nat)(l:Value)(by_ rb g:Nat)(a:Str)(br:Bool)(d b v:Value)(ok:Nat->Prop)(w:World)(hR:Blk w r 47 (Y1 l by_ rb g a br))(hB:Blk w rb 267 [d,v,b])(h:TabIs w ok v []) :
  Calls lA 56 #[.pointer (some ⟨r,0,none⟩)] w fun e w'=>∃ A c,e=.returned (.slice A 0 c)/\Below w.heap.size w w':=by
 have hal:=iD (Z0m r l by_ rb g a br d b v [] ok w hR hB h ⟨by simp,fun b hb=>absurd hb (by simp)⟩);unfold O5 at hal;have hso:=iD Z8e;have hco:=iD Zm9;clear hR hB h;go_enter func56,ntmps56;go_wp2_with fail;refine hal.out.mono ?_;rintro e w1 ⟨v1,rfl,hO,hb1⟩;obtain⟨TA,tc,rfl,_⟩:=hO.tab.form;clear hO hal;go_wp2_with fail;refine lC 1 ?_;rw[lB];go_wp2_with fail;refine (hso.out _ _ _ _).mono ?_;rintro e w2 ⟨rfl,hb2⟩;have hb02:=hb1.trans (hb2.mono hb1.size);clear hb1 hb2;go_wp2_with fail;refine (hco.out _ _ _).mono ?_;rintro e w3 ⟨rfl,hw3⟩;rw[hw3];clear hw3 w3;go_wp2_with fail;go_returns;exact⟨none,0,rfl,hb02⟩
theorem Zmb(r:Nat)(ses:Int)(name:Str)(w:World)(hs:0<=ses)(hn:Z6 name=true)(ht:Z6 (64 :: name)=true)(ho:Calls lA 51 #[.pointer (some ⟨r,0,none⟩)] w fun e w'=>e=.returned (.bool true)/\Below w.heap.size w w') :
  Calls lA 54 #[.pointer (some ⟨r,0,none⟩),.int .i64 ses,.string ⟨name.toArray⟩] w fun e w'=>∃ cb,e=.returned (.tuple #[.pointer (some ⟨cb,0,none⟩),.int .i64 0])/\Blk w' cb 34 (K0 r ses name [] 0 .nilFunc Z0 false 0)/\w.heap.size<=cb/\Below w.heap.size w w':=by
 have hnl:=Um hn;have h1:=iD (fun W=>Vr name W (by omega));have h2:=iD (fun W=>Vr (64 :: name) W (by simp only[List.length_cons];omega));have h3:=iD (fun W=>Zam name W (by omega));rw[hn] at h1;rw[ht] at h2;unfold Z1 at h1 h2;have d1:decide (ses<0)=false:=decide_eq_false (by omega);replace ho:=iD ho;clear hn ht hs;go_enter func54,ntmps54;go_wp2_with fail;refine ho.out.mono ?_;rintro e w1 ⟨rfl,hb1⟩;clear ho;replace hb1:=iD hb1;go_wp2_with fail;refine (h1.out _).mono ?_;rintro e w2 ⟨rfl,hw2⟩;rw[<-hw2];clear hw2 w2;go_wp2_with fail;refine (h3.out _).mono ?_;rintro e w2 ⟨rfl,hw2⟩;rw[hw2];clear hw2 w2;go_wp2_with fail;refine (h2.out _).mono ?_;rintro e w2 ⟨rfl,hw2⟩;rw[<-hw2];clear hw2 w2;go_wp2_with fail;go_returns;exact⟨w1.heap.size,rfl,Blk.new_at (cs:=K0 r ses name [] 0 .nilFunc Z0 false 0) rfl,hb1.out.size,hb1.out.alloc hb1.out.size _⟩
end
end Go.Proofs.YtefjlobdifjogaaGreatDoor
