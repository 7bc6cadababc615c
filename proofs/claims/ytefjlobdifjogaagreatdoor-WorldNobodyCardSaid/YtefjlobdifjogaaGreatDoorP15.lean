import Derived.Test.YtefjlobdifjogaaGreatDoorP14
import Derived.OrdersIn
import Derived.Test.YtefjlobdifjogaaGreatDoorP10
open Array renaming getElem?_eq_some_iff → lE, replicate → nA
open Bool renaming and_eq_true → l8
open Go renaming wpQuiet_nil → lB, rounds_succ → lI, wp_loop_rounds → lS, wpIn_wide → lX, getD_replicate_false → nB, run_enterLoop_outer → nF
open Go.Code renaming rangeFunc → nD
open Go.Fence renaming wide → lW
open Go.Instr renaming buildSlice → lZ, build → l4
open Go.Lib renaming run_eql_slice_nil → lY
open Go.Proofs.Tryz renaming prog → lA
open Go.Result renaming andThen_ok → l6
open Go.RowKit.Below renaming refl → lK, heap_alloc → lQ
open Go.Sem renaming run_bind → l5, run_pure → l7
open Go.Value renaming oneCell' → lM
open Go.World renaming putObj_heap_other → lF, alloc_heap_new → lO, putObj_heap_same → lP, alloc → lR, setRow → l9, size_alloc → nE
open Iff renaming rfl → lJ
open List renaming range → lC, map_cons → lG, map_nil → lH, mem_cons → lL, mem_singleton → lT, all_eq_true → lU, mem_append → lV, take_succ_cons → l0, take_zero → l1, drop_succ_cons → l2, drop_zero → l3, length_cons → nC
open Nat renaming le_refl → lD, zero_le → lN
namespace Go.Proofs.YtefjlobdifjogaaGreatDoor
section
set_option maxRecDepth 100000
set_option maxHeartbeats 4000000
open Go.Lib renaming hid → iD
open Go.Proofs.Tryz
open Go.RowKit
theorem Z51(w:World):Calls lA 100 #[Z0] w fun e w'=>e=.returned Z0/\w'=w:=by
 have hq:=fun w=>lY (P:=lA) w 22 59 none 0 0 0 0 underlying22;go_enter func100,ntmps100;go_wp2;go_ret;exact⟨rfl,rfl⟩
theorem Zja(l:List POp):∀ v ∈ Yg l,v.oneCell'=true:=by
 intro v hv;obtain⟨x,_,hx⟩:=List.mem_flatMap.1 hv;exact Kw x v hx
theorem Zjb(l:List POp)(n:Nat)(hn:l.length=n)(v:Value)(ok:Nat->Prop)(w:World)(h:Zl w ok v l)(hf:∀ x ∈ l,OpFit x)(hl:n<=1000)(hne:0<n) :
  Calls lA 189 #[v] w fun e w'=>∃ V,e=.returned V/\w'.ownsRow w.heap.size 278 37 V n (Yg l)/\Below w.heap.size w w':=by
 obtain⟨A,c,rfl,hc,hr⟩:=h;rw[hn] at hc ⊢;have hlen:=iD (Z3g hf);rw[hn] at hlen;have hone:=iD (Zja l);have hq:=fun w=>lY (P:=lA) w 152 278 A n c 0 0 underlying152;obtain⟨ad,rfl,_⟩:=hr (by rw[hlen.out];omega);have hrd:Hid (Rd (w.alloc (.cells #[] 278)) (fun b=>b<w.heap.size) (some ad) (Yg l)):=iD (hr.stay (fun b _ hlt=>lQ _ _ _ hlt) (fun b _ hlt=>hlt));have hown:=iD (Z42 w 278 37);have hb0:Hid (Below w.heap.size w (w.alloc (.cells #[] 278))):=iD bL;clear hr hf hn;go_enter func189,ntmps189;go_wp2_with (at_builtin;refine Yt _ rfl (.tmp 5) (.tmp 6) 152 rfl w.heap.size 278 _ 37 72 underlying152 Z46 (.slice (some ⟨w.heap.size,0,none⟩) 0 0) 0 [] rfl hown.out (fun b=>b<w.heap.size) (some ad) n c (Yg l) rfl hlen.out hrd.out hone.out (by unfold maxLen;omega) (by omega) (by simp) ?_;intro v' w2 hrow2 hg2 hv2;replace hrow2:=iD hrow2;replace hg2:=iD hg2;obtain⟨VA,vc,rfl,_,_⟩:=Za hrow2.out;go_frame);go_ret;refine⟨_,rfl,by have:=hrow2.out;simpa using this,?_⟩;exact hb0.out.trans (Yo hown.out hg2.out (by simp))
theorem Zjc(a t:Str)(o:Value)(ok:Nat->Prop)(w:World)(h:Zl w ok o (chain t))(ht:t.length<=1000)(h0:t ≠ []) :
  Calls lA 109 #[.agg (Z5 a o).toArray] w fun e w'=>∃ V,e=.returned (.agg (Z5 a V).toArray)/\w'.ownsRow w.heap.size 278 37 V t.length (Yg (chain t))/\Below w.heap.size w w':=by
 have hcl:(chain t).length=t.length:=Jq t 0;have ho:=iD (fun W (hb:Below w.heap.size w W)=>Zjb (chain t) t.length hcl o ok W (h.stayB hb) (Z3v t 0 (by omega)) ht (List.length_pos_iff.2 h0));obtain⟨OA,oc,rfl,_,_⟩:=h;rw[hcl] at ho ⊢;generalize hW1:(w.alloc (.cells (Z5 a (.slice OA t.length oc)).toArray 154))=w1;have hb1:Below w.heap.size w w1:=by rw[<-hW1];exact bL
 have hC1:Blk w1 w.heap.size 154 (Z5 a (.slice OA t.length oc)):=by rw[<-hW1];exact Blk.new_at rfl
 go_enter func109,ntmps109;go_wp2_with fail;generalize hW2:lR w1 (Obj.cells _ 154)=w2;have hR2:Blk w2 w1.heap.size 154 [Z0,.string ⟨#[]⟩,.string ⟨#[]⟩,Z0]:=by rw[<-hW2];exact Blk.new_at (cs:=[_,_,_,_]) rfl
 have hb12:Below w1.heap.size w1 w2:=by rw[<-hW2];exact bL
 have hC2:=hC1.below hb12 hC1.lt;have hb2:=hb1.trans (hb12.mono hb1.size);have hlt:=hC1.lt;clear hW1 hW2 hC1;obtain⟨PS,hPS⟩:∃ PS:World->Prop,∀ x,PS x ↔ Blk x w.heap.size 154 (Z5 a (.slice OA t.length oc)):=⟨_,fun _=>lJ⟩;have s0:∀ s:Cls PS,s.1.cell? ⟨w.heap.size,0,none⟩=some Z0:=fun s=>((hPS _).1 s.2).cell 0;have s3:∀ s:Cls PS,s.1.cell? ⟨w.heap.size,3,none⟩=some (.slice OA t.length oc):=fun s=>((hPS _).1 s.2).cell 3;have s4:PS w2.drew:=(hPS _).2 hC2.drew;haveI : Nonempty (Cls PS):=⟨⟨_,s4⟩⟩;replace hPS:=iD hPS;refine Yh (fun w'=>∃ s:Cls PS,w'=s.1) [([0,1,3,4],2),([6],5)] [] 7 [8,9] (by kernel_rfl) (by kernel_rfl) (fun _ d _ _ _ h=>by cases d <;> exact h) ⟨⟨_,s4⟩,rfl⟩ ?_;simp only[Y4,Z7,lG,lH,Zo,Zn];repeat (first | go_big_quiet_step (fail))
 refine lB ?_;intro K hK;go_simp;refine (Z51 _).mono ?_;rintro e w3 ⟨rfl,rfl⟩;refine hK _ _ ⟨⟨_,s4⟩,rfl⟩ ?_;clear hK;repeat (first | go_big_quiet_step (fail))
 refine lB ?_;intro K hK;go_simp;have hbd:=hb2.trans ((lK w2.heap.size w2).drew.mono hb2.size);refine (ho.out w2.drew hbd).mono ?_;rintro e w4 ⟨V,rfl,hrow,hb4⟩;obtain⟨VA,vc,rfl,_,_⟩:=Za hrow;have hC4:=hC2.drew.below hb4 hC2.drew.lt;have hR4:=hR2.drew.below hb4 hR2.drew.lt;have hb4':=hbd.trans (hb4.mono hbd.size);refine hK _ _ ⟨⟨_,(hPS.out _).2 hC4⟩,rfl⟩ ?_;clear hK;refine lB ?_;have c0:w4.cell? ⟨w.heap.size,0,none⟩=some Z0:=hC4.cell 0;have f0:=hC4.frozen 0;have hC5:=hC4.set_ 0 Z0;have c3:(w4.setCell ⟨w.heap.size,0,none⟩ Z0).cell? ⟨w.heap.size,3,none⟩=some (.slice OA t.length oc):=hC5.cell 3;have f3:=hC5.frozen 3;replace hrow:=iD hrow;have hC6:Blk ((w4.setCell ⟨w.heap.size,0,none⟩ Z0).setCell ⟨w.heap.size,3,none⟩ (.slice VA t.length vc)) w.heap.size 154 (Z5 a (.slice VA t.length vc)):=hC5.set_ 3 (.slice VA t.length vc);have hR6:=(hR4.far (p:=⟨w.heap.size,0,none⟩) (show w1.heap.size ≠ w.heap.size by omega) Z0).far (p:=⟨w.heap.size,3,none⟩) (show w1.heap.size ≠ w.heap.size by omega) (.slice VA t.length vc);have hb6:=(hb4'.setCell (p:=⟨w.heap.size,0,none⟩) (lD _) Z0).setCell (p:=⟨w.heap.size,3,none⟩) (lD _) (.slice VA t.length vc);have ht6:Touch [w.heap.size,w1.heap.size] w4 ((w4.setCell ⟨w.heap.size,0,none⟩ Z0).setCell ⟨w.heap.size,3,none⟩ (.slice VA t.length vc)):=(Touch.setCell _ (by simp)).trans (Touch.setCell _ (by simp)) (fun i hi=>.inl hi);have hO6:Hid (∀ u,Touch [w.heap.size,w1.heap.size] w4 u->u.ownsRow w.heap.size 278 37 (.slice VA t.length vc) t.length (Yg (chain t))):=iD (fun u hu=>J1 hbd.size (Zj hrow.out hu (fun b hb hm=>by
  simp only[lL,List.not_mem_nil,or_false] at hm;rcases hm with rfl | rfl
  ·exact Ys hrow.out hC4 (by decide) hb.symm
  ·exact Ys hrow.out hR4 (by decide) hb.symm)))
 clear hC5;replace hC6:=iD hC6;replace hR6:=iD hR6;replace hb6:=iD hb6;go_wp2_with (first
  | (refine Zy rfl 154 (.tmp 1) rfl w.heap.size rfl 154 (Z5 a (.slice VA t.length vc)) hC6.out _ underlying154 rfl (Ky _ _) ?_)
  | (refine Zd rfl 154 (.tmp 2) (.tmp 11) rfl w1.heap.size (Z5 a (.slice VA t.length vc)) rfl rfl 154 [Z0,.string ⟨#[]⟩,.string ⟨#[]⟩,Z0] hR6.out rfl (Ky _ _) (by simp[Z5,lM]) ?_)
  | fail)
 refine Qe rfl w1.heap.size 154 (Z5 a (.slice VA t.length vc)) _ rfl (hR6.out.setRow_same _) underlying154 rfl (Ky _ _) rfl ⟨_,rfl,hO6.out _ (ht6.trans (Touch.setRow (L:=[w.heap.size,w1.heap.size]) (by simp) _) (fun i hi=>.inl hi)),below_setRow hb6.out hb1.size _⟩
end
section
set_option maxRecDepth 100000
set_option maxHeartbeats 8000000
open Go.Lib renaming hid → iD
open Go.Proofs.Tryz
open Go.RowKit
theorem Z9h(a:Str)(OA:Option Addr)(n c:Nat)(w:World):(lZ 40 1 #[(0,.agg (Z5 a (.slice OA n c)).toArray)]).run lA w=.ok (.slice (some ⟨w.heap.size,0,none⟩) 1 1) (w.alloc (.cells (Z5 a (.slice OA n c)).toArray 154)):=by kernel_rfl
theorem Z9i(ds a:Str)(hdl:ds.length=32)(OA:Option Addr)(on oc kb by_:Nat)(w:World)(hk:Blk w kb 43 [Z0,.map (some by_)])(hM:Z8 w by_ []) :
  Calls lA 116 #[.pointer (some ⟨kb,0,none⟩),.agg (ds.map B).toArray,.agg (Z5 a (.slice OA on oc)).toArray] w fun e w'=>∃ lb lc rest,e=.returned (.bool true)/\Blk w' kb 43 [.slice (some ⟨lb,0,none⟩) 1 lc,.map (some by_)]/\Blk w' lb 154 (Z5 a (.slice OA on oc)++rest)/\Z8 w' by_ [(.agg (ds.map B).toArray,.int .i64 0)]/\w.heap.size<=lb/\Touch [kb,by_] w w':=by
 have hkm:kb ≠ by_:=hM.ne_blk hk;generalize hW1:(w.alloc (.cells (ds.map B).toArray 59))=w1;have hb1:Below w.heap.size w w1:=by rw[<-hW1];exact bL
 have hD1:Blk w1 w.heap.size 59 (ds.map B):=by rw[<-hW1];exact Blk.new_at rfl
 generalize hW2:(w1.alloc (.cells (Z5 a (.slice OA on oc)).toArray 154))=w2;have hb12:Below w1.heap.size w1 w2:=by rw[<-hW2];exact bL
 have hC2:Blk w2 w1.heap.size 154 (Z5 a (.slice OA on oc)):=by rw[<-hW2];exact Blk.new_at rfl
 have hb2:=hb1.trans (hb12.mono hb1.size);have hD2:=hD1.below hb12 hD1.lt;have hK2:=hk.below hb2 hk.lt;have hM2:=hM.below hb2 hM.lt;have hD3:Hid (∀ w',(∃ n,w'=w2.drewN n)->Blk w' w.heap.size 59 (ds.map B)):=iD (by rintro _ ⟨n,rfl⟩;exact hD2.drewN n);have k1:w2.cell? ⟨kb,1,none⟩=some (.map (some by_)):=hK2.cell 1;have hrun:Hid (∀ w',(∃ n,w'=w2.drewN n)->(Instr.lookup 41 (.map (some by_)) (.agg (ds.map B).toArray) true).run lA w'=.ok (.tuple #[.int .i64 0,.bool false]) w'):=iD (by
  rintro _ ⟨n,rfl⟩;have hM5:Z8 (w2.drewN n) by_ []:=hM2.block rfl;exact hM5.look_none Ja underlying41 (by rfl) (by simp) (Xs ds hdl) (by simp) true)
 clear hD1 hk hM hb12;replace hb2:=iD hb2;replace hC2:=iD hC2;replace hD2:=iD hD2;replace hK2:=iD hK2;replace hM2:=iD hM2;go_enter func116,ntmps116;go_wp2_with fail;refine wp_region_quiet_lit (by kernel_rfl) (by kernel_rfl) ?_;repeat (first
  | go_big_quiet_step (fail)
  | (refine Yq 59 (.tmp 4) rfl rfl w.heap.size 0 rfl 59 (ds.map B) (ds.map B) [] hD3.out (by simp) _ underlying59 rfl (Zg hdl) ?_;go_frame)
  | (refine Zc (.lookup 41 (.tmp 17) (.tmp 18) true) rfl rfl (.tuple #[.int .i64 0,.bool false]) (fun w' hw'=>Kb 41 (.tmp 17) (.tmp 18) true rfl _ _ _ rfl rfl (hrun.out w' hw')) ?_;go_frame))
 refine lB ?_;rintro _ ⟨nq,rfl⟩;have hK3:=hK2.out.drewN nq;have hM3:Z8 (w2.drewN nq) by_ []:=hM2.out.block rfl;have hC3:=hC2.out.drewN nq;have hD3:=hD2.out.drewN nq;have ht3:Touch [kb,by_] w (w2.drewN nq):=(Touch.ofBelow hb2.out).trans (Touch.drewN (L:=[]) nq) (fun i hi=>by cases hi);have c0:(w2.drewN nq).cell? ⟨w1.heap.size,0,none⟩=some Z0:=hC3.cell 0;clear hW1 hW2 hrun k1 hC2 hD2 hK2 hM2;generalize w2.drewN nq=w3 at hK3 hM3 hC3 hD3 ht3 c0 ⊢;replace ht3:=iD ht3;replace hM3:=iD hM3;replace hC3:=iD hC3;have k1:w3.cell? ⟨kb,1,none⟩=some (.map (some by_)):=hK3.cell 1;have k0:w3.cell? ⟨kb,0,none⟩=some Z0:=hK3.cell 0;replace hK3:=iD hK3;replace hD3:=iD hD3;go_wp2_with fail;refine lS 1 ?_;rw[lI];go_wp2_with fail;have hD4:Hid (∀ w',(∃ n,w'=w3.drewN n)->Blk w' w.heap.size 59 (ds.map B)):=iD (by rintro _ ⟨n,rfl⟩;exact hD3.out.drewN n);refine Y7 10 (by kernel_rfl) (by kernel_rfl) ?_;simp only[l0,l1,l2,l3];repeat (first
  | go_big_quiet_step (fail)
  | (refine Yq 59 (.tmp 4) rfl rfl w.heap.size 0 rfl 59 (ds.map B) (ds.map B) [] hD4.out (by simp) _ underlying59 rfl (Zg hdl) ?_;go_frame))
 refine lB ?_;rintro _ ⟨nq,rfl⟩;have hM4:Z8 (w3.drewN nq) by_ []:=hM3.out.block rfl;obtain⟨w4,hrun,hA4,ht4⟩:=hM4.store Ja underlying41 (by simp) (Xs ds hdl) (by simp) (.int .i64 0);have htab:Touch [by_] (w3.drewN nq) w4:=Kz ht4;refine Ob rfl (Oa 41 (.tmp 45) (.tmp 46) (.tmp 51) rfl _ _ _ rfl rfl rfl hrun) ?_;have hK4:=(hK3.out.drewN nq).touch htab (by simpa using hkm);have hcm:w1.heap.size ≠ by_:=hM3.out.ne_blk hC3.out;have hC4:=(hC3.out.drewN nq).touch htab (by simpa using hcm);have htt:Touch [kb,by_] w w4:=(ht3.out.trans (Touch.drewN (L:=[]) nq) (fun i hi=>by cases hi)).trans htab (fun i hi=>.inl (by simp at hi ⊢;exact .inr hi));clear hrun ht4 hM4 hD4 k0 k1 c0 hM3 hC3 hK3 hD3 ht3 htab;have k0:w4.cell? ⟨kb,0,none⟩=some Z0:=hK4.cell 0;replace hK4:=iD hK4;replace hC4:=iD hC4;replace hA4:=iD hA4;replace htt:=iD htt;go_wp2_with fail;go_frame;obtain⟨PS,hPS⟩:∃ PS:World->Prop,∀ x,PS x ↔ Blk x kb 43 [Z0,.map (some by_)]/\Blk x w1.heap.size 154 (Z5 a (.slice OA on oc)):=⟨_,fun _=>lJ⟩;have s0:∀ s:Cls PS,s.1.cell? ⟨kb,0,none⟩=some Z0:=fun s=>((hPS _).1 s.2).1.cell 0;have s1:Hid (∀ w',(∃ s:Cls PS,w'=s.1)->Blk w' w1.heap.size 154 (Z5 a (.slice OA on oc))):=iD (by rintro _ ⟨s,rfl⟩;exact ((hPS _).1 s.2).2);have s4:PS w4.drew:=(hPS _).2 ⟨hK4.out.drew,hC4.out.drew⟩;haveI : Nonempty (Cls PS):=⟨⟨_,s4⟩⟩;replace hPS:=iD hPS;refine Yh (fun w'=>∃ s:Cls PS,w'=s.1) [([0,1,2,3,4,5],6),([],7)] [] 8 [9,10] (by kernel_rfl) (by kernel_rfl) (fun _ d _ _ _ h=>by cases d <;> exact h) ⟨⟨_,s4⟩,rfl⟩ ?_;simp only[Y4,Z7,lG,lH,Zo,Zn];repeat (first | go_big_quiet_step (fail) | (refine Yq 154 (.tmp 5) rfl rfl w1.heap.size 0 rfl 154 (Z5 a (.slice OA on oc)) (Z5 a (.slice OA on oc)) [] s1.out (by simp) _ underlying154 rfl (Ky _ _) ?_;go_frame))
 refine lB ?_;intro K hK;refine J0 _ _ rfl _ (Jy 40 (.tmp 57) rfl _ _ rfl (Z9h a OA on oc _)) ?_;generalize hW5:lR w4.drew _=w5;have hX5:Blk w5 w4.heap.size 154 (Z5 a (.slice OA on oc)):=by rw[<-hW5];exact Blk.new_at (by simp)
 have hb5:Below w4.heap.size w4 w5:=by rw[<-hW5];exact ((lK _ _).drew).alloc (by simp) _
 have hK5:=hK4.out.below hb5 hK4.out.lt;have hC5:=hC4.out.below hb5 hC4.out.lt;have hA5:=hA4.out.below hb5 hA4.out.lt;have hs5:=hb5.size;refine hK _ _ ⟨⟨_,(hPS.out _).2 ⟨hK5,hC5⟩⟩,rfl⟩ ?_;clear hK hW5;refine lB ?_;intro K hK;refine Vs _ rfl (.tmp 56) (.tmp 58) 40 rfl w4.heap.size 154 _ 4 80 underlying40 Z4y Z0 0 [] rfl ⟨rfl,.inl ⟨rfl,rfl⟩⟩ (fun _=>True) (some ⟨w4.heap.size,0,none⟩) 1 1 (Z5 a (.slice OA on oc)) rfl rfl (Rd.of_blk (cs:=Z5 a (.slice OA on oc)) (r:=[]) hX5 rfl trivial) (by simp[Z5,lM]) (by unfold maxLen;omega) (by omega) hs5 ?_;intro v6 w6 hrow6 hg6 hv6;obtain⟨lb,lc,rest,rfl,hlb,hL6⟩:=Ui hrow6;have hb6:Below w4.heap.size w5 w6:=Yo (v:=Z0) (n:=0) (xs:=[]) (e:=154) (size:=4) ⟨rfl,.inl ⟨rfl,rfl⟩⟩ hg6 hs5;have hb46:=hb5.trans hb6;have hK6:=hK4.out.below hb46 hK4.out.lt;have hC6:=hC4.out.below hb46 hC4.out.lt;have hA6:=hA4.out.below hb46 hA4.out.lt;have ht6:=htt.out.under (hb46.mono htt.out.size);refine hK _ _ ⟨⟨_,(hPS.out _).2 ⟨hK6,hC6⟩⟩,rfl⟩ ?_;clear hK hrow6 hg6 hv6 s0 s1 hK5 hC5 hA5 hX5 hb5 hb6;refine lB ?_;have k6:w6.cell? ⟨kb,0,none⟩=some Z0:=hK6.cell 0;have f6:=hK6.frozen 0;have hne:lb ≠ kb:=hL6.ne_ hK6 (by decide);have hkl:=hK4.out.lt;have hws:=htt.out.size;have hK7:=hK6.set_ 0 (.slice (some ⟨lb,0,none⟩) 1 lc);have hL7:=hL6.far (p:=⟨kb,0,none⟩) hne (.slice (some ⟨lb,0,none⟩) 1 lc);have hA7:Z8 (w6.setCell ⟨kb,0,none⟩ (.slice (some ⟨lb,0,none⟩) 1 lc)) by_ _:=hA6.block (Below.heap_setCell w6 ⟨kb,0,none⟩ (.slice (some ⟨lb,0,none⟩) 1 lc) _ (fun e=>hkm e.symm));have ht7:Touch [kb,by_] w (w6.setCell ⟨kb,0,none⟩ (.slice (some ⟨lb,0,none⟩) 1 lc)):=ht6.trans (Touch.setCell (L:=[kb,by_]) _ (by simp)) (fun i hi=>.inl hi);replace hK7:=iD hK7;replace hL7:=iD hL7;replace hA7:=iD hA7;replace ht7:=iD ht7;clear hL6 hA6 ht6 hK6 hC6;go_wp2_with fail;go_returns;exact⟨lb,lc,rest,rfl,hK7.out,hL7.out,hA7.out,by omega,ht7.out⟩
end
section
set_option maxRecDepth 100000
set_option maxHeartbeats 16000000
open Go.Lib renaming hid → iD
open Go.Proofs.Tryz
open Go.RowKit
theorem Zjd{P:Program}{w:World}{o:Oper}{a:Act}(t:TypeId)(i0 i1:Nat)(x0 x1:Operand)(ho:o.op=.build t #[(i0,x0),(i1,x1)])(V0 V1 r:Value)(h0:a.eval x0=V0)(h1:a.eval x1=V1)
  (h:(l4 t #[(i0,V0),(i1,V1)]).run P w=.ok r w):(execOp a.eval o).run P w=.ok (.value r) w:=by
 simp only[execOp,ho,List.map_toArray,lG,lH,h0,h1,l5,h,l6,l7]
theorem Zje(s:ByteArray)(A:Option Addr)(n c:Nat)(w:World):(l4 205 #[(0,.string s),(1,.slice A n c)]).run lA w=.ok (.agg #[.string s,.slice A n c]) w:=by kernel_rfl
theorem Zjf(s:ByteArray)(A:Option Addr)(n c:Nat)(w:World):(lZ 92 1 #[(0,.agg #[.string s,.slice A n c])]).run lA w=.ok (.slice (some ⟨w.heap.size,0,none⟩) 1 1) (w.alloc (.cells #[.string s,.slice A n c] 205)):=by kernel_rfl
theorem Zjg(n ds:Str)(hn:Z6 n=true)(hdl:ds.length=32)(v u:Value)(ok ok':Nat->Prop)(w:World)(h:TabIs w ok v [])(h':Yx w ok' u [⟨n,[],[ds]⟩]) :
    Calls lA 190 #[v,u] w fun e w'=>∃ V,e=.returned (.tuple #[V,.int .i64 0])/\Zu w' w.heap.size V [⟨n,[ds]⟩]/\Below w.heap.size w w':=by
  obtain⟨A,tc,rfl,htc⟩:=h.form;obtain⟨CA,cc,rfl,hcc⟩:=h'.form;have hT0:TFit ([]:Tab):=⟨by simp,fun b hb=>absurd hb (by simp)⟩;have hs0:J4 ([]:Tab):=by simp[J4]
  have hf1:HFit [ds]:=⟨by simp,fun d hd=>by obtain rfl:=lT.1 hd;exact hdl⟩;have hf0:HFit []:=⟨by simp,fun d hd=>by cases hd⟩;have hnl:n.length<=24:=by
    have:=hn;simp only[Z6,l8,decide_eq_true_eq] at this;exact this.2
  have hmay:=Z7p [] _ ok w h hT0;rw[show Xk []=0 by rfl] at hmay;replace hmay:=iD hmay;have hT:=iD (fun W (hb:Below w.heap.size w W)=>h.stayB hb);obtain⟨b,o,x,y,rfl,hob,hbl,hX,hY,hcells⟩:=h'.ch 0 (by simp);simp only[List.getElem_cons_zero,Nat.zero_mul,Nat.add_zero] at hX hY hcells;obtain⟨XA,xc,rfl,_,_⟩:=id hX;obtain⟨YA,yc,rfl,_,_⟩:=id hY;have hw0:U6 [] [] ⟨n,[],[ds]⟩=0:=by simp[U6,hn,Yp,Ko,Yb]
  have hwr:=iD (fun W (hb:Below w.heap.size w W)=>by
    have:=Zev [] [] ⟨n,[],[ds]⟩ (.slice A 0 tc) (.slice (some ⟨b,o,none⟩) 0 cc) (.slice XA 0 xc) (.slice YA 1 yc) _ (fun _=>True) _ W (h.stayB hb) hT0 hs0 ⟨_,cc,[],rfl,rfl,lN _,(fun hp=>absurd hp (by simp[Qh])),fun k b u e _=>by simp at e⟩ (by simp) (hX.stayB hb) (hY.stayB hb) ⟨by show n.length<=_;omega,hf0,hf1⟩;rw[hw0] at this;exact this)
  have how:=iD (fun W (hb:Below w.heap.size w W)=>Z7w [] _ _ W (h.stayB hb) hT0);have hcl:=iD (fun W (hb:Below w.heap.size w W)=>Z43 [ds] _ _ W (hY.stayB hb) hf1);have hat:=iD (fun W (v:Value) ok (h:TabIs W ok v [])=>Z40 [] v n ok W h (by simp) hs0);have hcl0:∀ W,Below w.heap.size w W->∀ j u,[Z1 n,.slice XA 0 xc,.slice YA 1 yc][j]?=some u->W.cell? ⟨b,o+j,none⟩=some u:=fun W hb j u hu=>by rw[hb.cell (p:=⟨b,_,none⟩) hbl];exact hcells j u hu
  clear h h' hX hY hcells hw0;unfold Z1 at hwr hat hcl0;replace hcl0:=iD hcl0;go_enter func190,ntmps190;go_wp2_with fail;refine hmay.out.mono ?_;rintro e w1 ⟨rfl,hb1⟩;clear hmay;have hc1:=hcl0.out w1 hb1;replace hc1:=iD hc1;replace hb1:=iD hb1;go_wp2_with fail;refine lS 2 ?_;rw[lI];go_upto_region 9 with (first
    | (refine wpList_load_mid rfl 177 (.tmp 28) rfl b o rfl [.string ⟨n.toArray⟩,.slice XA 0 xc,.slice YA 1 yc] _ hc1.out underlying177 rfl U9 ?_;go_frame)
    | (refine Zd rfl 177 (.tmp 8) (.tmp 29) rfl w1.heap.size [.string ⟨n.toArray⟩,.slice XA 0 xc,.slice YA 1 yc] rfl rfl 177 Z22 (Blk.new_at rfl) rfl U9 (by simp[lM]) ?_;go_frame)
    | fail)
  generalize hW2:l9 _ _ _=w2;have hC2:Blk w2 w1.heap.size 177 [.string ⟨n.toArray⟩,.slice XA 0 xc,.slice YA 1 yc]:=by rw[<-hW2];exact (Blk.new_at (cs:=Z22) rfl).setRow_same _
  have hb12:Below w1.heap.size w1 w2:=by rw[<-hW2];exact below_setRow bL (lD _) _
  have hb2:=hb1.out.trans (hb12.mono hb1.out.size);clear hW2 hb12 hb1 hc1;have hs2:=iD (fun w=>Z44 (P:=lA) w 178 177 3 underlying178 U9 (some ⟨b,o,none⟩) 1 cc 0 (lN _));obtain⟨PS,hPS⟩:∃ PS:World->Prop,∀ y,PS y ↔ Below w2.heap.size w2 y:=⟨_,fun _=>lJ⟩;have hbd:Below w2.heap.size w2 w2.drew:=(lK _ _).drew;have s1:Hid (∀ w',(∃ y:Cls PS,w'=y.1)->Blk w' w1.heap.size 177 [.string ⟨n.toArray⟩,.slice XA 0 xc,.slice YA 1 yc]):=iD (by rintro _ ⟨y,rfl⟩;exact hC2.below ((hPS _).1 y.2) hC2.lt);have s4:PS w2.drew:=(hPS _).2 hbd;haveI : Nonempty (Cls PS):=⟨⟨_,s4⟩⟩;replace hPS:=iD hPS;clear hC2;refine Yh (fun w'=>∃ y:Cls PS,w'=y.1) [([0,1,2,3,4],5)] [] 6 [] (by kernel_rfl) (by kernel_rfl) (fun _ d _ _ _ h=>by cases d <;> exact h) ⟨⟨_,s4⟩,rfl⟩ ?_;simp only[Y4,Z7,lG,lH,Zo,Zn];repeat (first
    | (refine Zc (Op.slice 178 (.tmp 31) none (some (.tmp 32)) none) rfl rfl (.slice (some ⟨b,o,none⟩) 0 cc) (fun w _=>?_) ?_
       · exact (congrArg (fun r=>Result.andThen r _) (hs2.out w))
       go_frame)
    | (refine Yq 177 (.tmp 8) rfl rfl w1.heap.size 0 rfl 177 [.string ⟨n.toArray⟩,.slice XA 0 xc,.slice YA 1 yc] [.string ⟨n.toArray⟩,.slice XA 0 xc,.slice YA 1 yc] [] s1.out rfl _ underlying177 rfl U9 ?_;go_frame)
    | go_big_quiet_step (fail))
  refine lB ?_;clear s1 s4 hs2;have hb2d:=hb2.trans (hbd.mono hb2.size);intro K hK;go_simp;refine (hwr.out _ hb2d).mono ?_;rintro e w3 ⟨rfl,hb23⟩;have hb3:=hb2d.trans (hb23.mono hb2d.size);refine hK _ _ ⟨⟨_,(hPS.out _).2 (hbd.trans (hb23.mono hbd.size))⟩,rfl⟩ ?_;clear hK hPS hbd hb23 hb2 hb2d hwr;refine lB ?_;have how3:=iD (how.out w3 hb3);unfold O5 at how3;replace hb3:=iD hb3;clear how;go_wp2_with fail;rw[lI];go_wp2_with fail;refine how3.out.mono ?_;rintro e w4 ⟨V,rfl,hO4,hb34⟩;have hb4:=hb3.out.trans (hb34.mono hb3.out.size);obtain⟨VA,vc,rfl,_⟩:=hO4.form;have hc4:=iD (hcl0.out w4 hb4);have hO4':=hO4.lower hb3.out.size;clear how3 hb34 hO4 hb3;replace hO4':=iD hO4';replace hb4:=iD hb4;go_wp2_with fail;refine lS 2 ?_;rw[lI];go_upto_region 17 with (first
    | (refine wpList_load_mid rfl 177 (.tmp 46) rfl b o rfl [.string ⟨n.toArray⟩,.slice XA 0 xc,.slice YA 1 yc] _ hc4.out underlying177 rfl U9 ?_;go_frame)
    | (refine Zd rfl 177 (.tmp 12) (.tmp 47) rfl w4.heap.size [.string ⟨n.toArray⟩,.slice XA 0 xc,.slice YA 1 yc] rfl rfl 177 Z22 (Blk.new_at rfl) rfl U9 (by simp[lM]) ?_;go_frame)
    | fail)
  generalize hW5:l9 _ _ _=w5;have hC5:Blk w5 w4.heap.size 177 [.string ⟨n.toArray⟩,.slice XA 0 xc,.slice YA 1 yc]:=by rw[<-hW5];exact (Blk.new_at (cs:=Z22) rfl).setRow_same _
  have hb45:Below w4.heap.size w4 w5:=by rw[<-hW5];exact below_setRow bL (lD _) _
  have hb5:=hb4.out.trans (hb45.mono hb4.out.size);have hO5:=hO4'.out.keepB hb45;have x0:w5.cell? ⟨w4.heap.size,0,none⟩=some (.string ⟨n.toArray⟩):=hC5.cell 0;have hat5:=iD (hat.out w5 _ _ hO5.tab);clear hW5 hb45 hb4 hO4' hc4 hat;replace hC5:=iD hC5;replace hb5:=iD hb5;replace hO5:=iD hO5;go_wp2_with fail;refine hat5.out.mono ?_;rintro e w6 ⟨rfl,hb56⟩;have hC6:=hC5.out.below hb56 hC5.out.lt;have hb6:=hb5.out.trans (hb56.mono hb5.out.size);have hO6:=hO5.out.keepB hb56;clear hat5 hb56 hb5 hC5 hO5 x0;have x2:w6.cell? ⟨w4.heap.size,2,none⟩=some (.slice YA 1 yc):=hC6.cell 2;have hp0:Ye [] n=0:=rfl;have hh0:Q9 [] n=false:=rfl;rw[hp0,hh0];replace hC6:=iD hC6;replace hb6:=iD hb6;replace hO6:=iD hO6;go_upto_region 21 with fail;obtain⟨PS,hPS⟩:∃ PS:World->Prop,∀ y,PS y ↔ Below w6.heap.size w6 y:=⟨_,fun _=>lJ⟩;have hbd:Below w6.heap.size w6 w6.drew:=(lK _ _).drew;have s0:∀ y:Cls PS,y.1.cell? ⟨w4.heap.size,0,none⟩=some (.string ⟨n.toArray⟩):=fun y=>(hC6.out.below ((hPS _).1 y.2) hC6.out.lt).cell 0;have s2:∀ y:Cls PS,y.1.cell? ⟨w4.heap.size,2,none⟩=some (.slice YA 1 yc):=fun y=>(hC6.out.below ((hPS _).1 y.2) hC6.out.lt).cell 2;have s4:PS w6.drew:=(hPS _).2 hbd;haveI : Nonempty (Cls PS):=⟨⟨_,s4⟩⟩;replace hPS:=iD hPS;have hb6d:=hb6.out.trans (hbd.mono hb6.out.size);clear hC6;refine Yh (fun w'=>∃ y:Cls PS,w'=y.1) [([0,1,2,3,4,5],6),([7],8)] [] 9 [10] (by kernel_rfl) (by kernel_rfl) (fun _ d _ _ _ h=>by cases d <;> exact h) ⟨⟨_,s4⟩,rfl⟩ ?_;simp only[Y4,Z7,lG,lH,Zo,Zn];repeat (first | go_big_quiet_step (fail))
  refine lB ?_;clear s0 s2 s4 x2;intro K hK;go_simp;refine (hcl.out _ hb6d).mono ?_;rintro e w7 ⟨cu,rfl,hcu,hb67⟩;obtain⟨UA,uc,rfl,_,_⟩:=id hcu;have hb7:=hb6d.trans (hb67.mono hb6d.size);have hd7:=hbd.trans (hb67.mono hbd.size);refine hK _ _ ⟨⟨_,(hPS.out _).2 hd7⟩,rfl⟩ ?_;clear hK hcl hb67 hb6d hbd;repeat (first
    | (refine Zc (.build 205 #[(0,.tmp 68),(1,.tmp 71)]) rfl rfl (.agg #[.string ⟨n.toArray⟩,.slice UA 1 uc]) (fun w' _=>Zjd 205 0 1 (.tmp 68) (.tmp 71) rfl (.string ⟨n.toArray⟩) (.slice UA 1 uc) _ rfl rfl (Zje _ _ _ _ _)) ?_;go_frame)
    | go_big_quiet_step (fail))
  refine lB ?_;intro K hK;refine J0 _ _ rfl _ (Jy 92 (.tmp 72) rfl _ _ rfl (Zjf ⟨n.toArray⟩ UA 1 uc w7)) ?_;have hN8:Blk (w7.alloc (.cells #[.string ⟨n.toArray⟩,.slice UA 1 uc] 205)) w7.heap.size 205 [.string ⟨n.toArray⟩,.slice UA 1 uc]:=Blk.new_at rfl;have hb78:Below w7.heap.size w7 (w7.alloc (.cells #[.string ⟨n.toArray⟩,.slice UA 1 uc] 205)):=bL;generalize lR w7 _=w8 at hN8 hb78 ⊢;have hb8:=hb7.trans (hb78.mono hb7.size);have hd8:=hd7.trans (hb78.mono hd7.size);have hO8:=hO6.out.keepB hd8;have hcu8:=(hcu.keepB hb78).lower hb6.out.size;refine hK _ _ ⟨⟨_,(hPS.out _).2 hd8⟩,rfl⟩ ?_;clear hK hPS hcu hd7 hd8 hb7 hb78 hO6 hb6;refine lB ?_;obtain⟨vs,hvl,hrow,_⟩:=hO8;obtain rfl:vs=[]:=List.eq_nil_of_length_eq_zero hvl;have hin:=Zf0 w.heap.size (.slice VA 0 vc) 0 [] w7.heap.size (.string ⟨n.toArray⟩) (.slice UA 1 uc) w8 hrow (by omega) hN8 rfl rfl hb8.size;unfold Z7y at hin
  change Calls _ _ #[.slice VA 0 vc,.int .i64 0,_] _ _ at hin
  replace hin:=iD hin;replace hrow:=iD hrow;replace hcu8:=iD hcu8;replace hb8:=iD hb8;clear hN8 hvl;go_wp2_with fail;refine hin.out.mono ?_;rintro e w9 ⟨v',rfl,hrow9,hg9,_⟩;obtain⟨RA,rc,rfl,_,_⟩:=Za hrow9;have hcu9:=iD (hcu8.out.keepRow hrow.out (by decide) hg9);have hb9:=iD (hb8.out.trans (Yo hrow.out hg9 hb8.out.size));replace hrow9:=iD hrow9;clear hin hrow hcu8 hb8 hg9;go_wp2_with fail;rw[lI];go_wp2_with fail;go_ret2;refine⟨_,rfl,⟨[.slice UA 1 uc],rfl,hrow9.out,fun k b u h1 h2=>?_⟩,hb9.out⟩
  match k,h1,h2 with
  | 0,h1,h2 =>
    simp only[List.getElem?_cons_zero,Option.some.injEq] at h1 h2;subst h1;subst h2;exact hcu9.out
  | k+1,h1,_=>simp at h1
end
section
open Go.RowKit
abbrev Q5(n ds:Str):List Chg:=[⟨n,[],[ds]⟩]
theorem Z52{n ds:Str}(hn:Z6 n=true):U7 [] (Q5 n ds)=0/\Ke [] (Q5 n ds)=Xm n ds:=by
 have e:U7 [] (Q5 n ds)=0:=by
  simp[U7,Xk,J9,Z1f,U6,hn,Yp,Ko,Yb,Z1g,putT,Gy]
 refine⟨e,?_⟩;unfold Ke;rw[if_pos e];simp[Z1g,putT,Gy]
theorem Z9j{n ds:Str}(hn:Z6 n=true)(hdl:ds.length=32):CFit (Q5 n ds):=by
 refine⟨by simp,fun c hc=>?_⟩;obtain rfl:=lT.1 hc;refine⟨by have:=nmOk_len' hn;show n.length<=_;omega,⟨by simp,fun d hd=>by cases hd⟩,⟨by simp,fun d hd=>?_⟩⟩;obtain rfl:=lT.1 hd;exact hdl
theorem Z9k{n ds:Str}(hn:Z6 n=true)(hdl:ds.length=32)(v u:Value)(ok ok':Nat->Prop)(w:World)(h:TabIs w ok v [])(h':Yx w ok' u (Q5 n ds)):Calls lA 190 #[v,u] w (Z45 w [] (Q5 n ds)) :=
 (Zjg n ds hn hdl v u ok ok' w h h').mono (by
  rintro e w' ⟨V,rfl,hO,hb⟩;obtain⟨hE,hT⟩:=Z52 (ds:=ds) hn;exact⟨V,by rw[hE],by rw[hT];exact hO,hb⟩)
theorem Zjh{w0:World}{base:Nat->Prop}{rb g bn bs:Nat}{pv v u:Value}{S:DS}{W:World}{n ds:Str}{ok':Nat->Prop}(hn:Z6 n=true)(hdl:ds.length=32)(h:Ref w0 base rb g v S [] W)(hD:DiskAt W g bn bs pv S)(hL:∀ i ∈ Zf g bn bs pv,base i)(hi:Inv S 1)(ho:S.off=false)(hf:S.fuse = -1)(hx:Zz S.now Zi=false)(hl:Zq S.now=1)
  (hroom:(Yr S.now:Int)+65536<=S.room) (h':Yx W ok' u (Q5 n ds)) :
  Calls lA 192 #[.pointer (some ⟨rb,0,none⟩),u] W fun e W'=>e=.returned (.int .i64 0)/\Oc W W'/\Touch (rb :: Zf g bn bs pv) W W'/\∃ v' S',Ref w0 base rb g v' S' (Xm n ds) W'/\Zu W' W.heap.size v' (Xm n ds):=by
 obtain⟨hE,hT⟩:=Z52 (ds:=ds) hn;have hm:=Z9e (ds:=ds) hn;have hh:=Z4z (n:=n) hdl;have hl1:=Zif hm hh;have hP:Ki (Xm n ds)=Jv (Xm n ds):=by unfold Ki;rw[if_pos hm]
 have hch:Chain4 S (Ki (Xm n ds)):=Zik hi (by omega) ho hf hx (by rw[hP];omega) (by omega);have hdo:=do_by rb g bn bs pv v u S [] (Q5 n ds) _ ok' W h.ref h.own.tab ⟨by simp,fun b hb=>absurd hb (by simp)⟩ h' (Z9j hn hdl) hE (by simp) (by rw[hT];exact Z0n hn hdl) (by rw[hT,hP];omega) hD (by exact hch.a0) (by rw[hT];exact hch.a1) (by rw[hT];exact hch.a2) (by rw[hT];exact hch.a3) (Z9k hn hdl v u _ ok' W h.own.tab h');rw[hT] at hdo;refine hdo.mono ?_;rintro e W' ⟨he,ht,⟨L',hD',hL'⟩,nv,hB,hO⟩;rw[hch.e] at he hB hO;rw[if_pos rfl] at hO;have hb:∀ i ∈ rb :: Zf g bn bs pv,base i:=fun i hi=>by
  rcases lL.1 hi with rfl | hi
  ·exact h.low
  ·exact hL i hi
 refine⟨he,fun k t cs hBk a b c=>hBk.touch ht (fun hm=>?_),ht,nv,_,⟨⟨h.bel.trans (ht.stay hb),fun i hi=>h.size i (Nat.le_trans ht.size hi),L',hD',fun i hi=>?_⟩,h.low,hB,hO.lower (lN _)⟩,hO⟩
 ·rcases lL.1 hm with rfl | hm
  ·exact a (hBk.unique h.ref)
  ·exact hD.tag hBk b c hm
 ·rcases hL' i hi with h1 | h1
  ·exact hL i h1
  ·exact h.size _ h1
end
section
open Go.RowKit
def Fr(w:World)(b:Nat):Prop:=∃ t cs,Blk w b t cs/\t ≠ 267/\t ≠ 105/\t ≠ 314/\t ≠ 47
def J6:Obj->Bool
 | .deferred _=>true
 | .loop _=>true
 | _=>false
theorem Qc{W:World}{k:Nat}{o:Obj}(h:W.heap[k]?=some o):k<W.heap.size:=(lE.1 h).1
theorem Qo{W W':World}{L:List Nat}{k:Nat}{o:Obj}(ht:Touch L W W')(h:W.heap[k]?=some o)(hn:k ∉ L):W'.heap[k]?=some o:=(ht.block k (Qc h) hn).trans h
theorem Kk{W:World}{k:Nat}{o:Obj}{t:TypeId}{cs:List Value}(h:W.heap[k]?=some o)(hm:J6 o=true):¬ Blk W k t cs:=fun hB=>by
 unfold Blk at hB;rw[h] at hB
 injection hB with hB
 subst hB;cases hm
theorem Z9l{W:World}{k:Nat}{o:Obj}{D:DM}(h:W.heap[k]?=some o)(hm:J6 o=true):¬ Zp W k D:=fun hB=>by
 obtain⟨es,c,h'⟩:=hB.at;rw[h] at h'
 injection h' with h'
 subst h';cases hm
theorem Z9m{W:World}{g bn bs:Nat}{pv:Value}{S:DS}(hD:DiskAt W g bn bs pv S){k:Nat}{o:Obj}(h:W.heap[k]?=some o)(hm:J6 o=true):k ∉ Zf g bn bs pv:=fun hf=>by
 rcases DiskAt.mem_foot hf with rfl | rfl | rfl | e
 ·exact Kk h hm hD.blk
 ·exact Z9l h hm hD.now
 ·exact Z9l h hm hD.sure
 ·obtain⟨vs,ho,_⟩:=hD.row;obtain⟨cs,hB⟩:=Z0b ho k e;exact Kk h hm hB
structure KeepsR (W W':World):Prop where
 blk:∀ k t cs,Blk W k t cs->t ≠ 267->t ≠ 105->t ≠ 314->t ≠ 47->Blk W' k t cs
 mark:∀ (k:Nat) (o:Obj),W.heap[k]?=some o->J6 o=true->W'.heap[k]?=some o
structure KeepsC (ic:Nat) (W W':World):Prop where
 blk:∀ k t cs,Blk W k t cs->t ≠ 267->t ≠ 105->t ≠ 314->t ≠ 47->k ≠ ic->Blk W' k t cs
 mark:∀ (k:Nat) (o:Obj),W.heap[k]?=some o->J6 o=true->W'.heap[k]?=some o
theorem KeepsR.disk{W W':World}{g bn bs:Nat}{pv:Value}{S:DS}(hD:DiskAt W g bn bs pv S)(ht:Touch (Zf g bn bs pv) W W'):KeepsR W W' :=
 ⟨fun k t cs hB a b c _=>Oc.touch hD ht k t cs hB a b c,fun _ _ h hm=>Qo ht h (Z9m hD h hm)⟩
theorem KeepsR.names{W W':World}{g bn bs rb:Nat}{pv:Value}{S:DS}{cs:List Value}(hD:DiskAt W g bn bs pv S)(hR:Blk W rb 267 cs)(ht:Touch (rb :: Zf g bn bs pv) W W')(hk:Oc W W'):KeepsR W W' :=
 ⟨fun k t cs hB a b c _=>hk k t cs hB a b c,fun k _ h hm=>Qo ht h (fun hf=>by
  rcases lL.1 hf with rfl | hf
  ·exact Kk h hm hR
  ·exact Z9m hD h hm hf)⟩
theorem KeepsR.one{W W':World}{i:Nat}{t:TypeId}{cs:List Value}(hB:Blk W i t cs)(ht:Touch [i] W W')(h:t=47):KeepsR W W' :=
 ⟨fun k t' cs' hB' a b c d=>hB'.touch ht (fun hm=>by
  obtain rfl:k=i:=by simpa using hm
  exact d ((hB'.unique hB).trans h)),fun k _ h hm=>Qo ht h (fun hf=>by
  obtain rfl:k=i:=by simpa using hf
  exact Kk h hm hB)⟩
theorem KeepsR.below{W W':World}(h:Below W.heap.size W W'):KeepsR W W':=⟨fun _ _ _ hB _ _ _ _=>hB.below h hB.lt,fun k _ ho _=>(h.block k (Qc ho)).trans ho⟩
theorem KeepsR.trans{A B C:World}(h:KeepsR A B)(h':KeepsR B C):KeepsR A C:=⟨fun k t cs hB a b c d=>h'.blk k t cs (h.blk k t cs hB a b c d) a b c d,fun k o ho hm=>h'.mark k o (h.mark k o ho hm) hm⟩
theorem KeepsR.heap{W W':World}(h:KeepsR W W'){b:Nat}(hb:Fr W b):W'.heap[b]?=W.heap[b]?:=by
 obtain⟨t,cs,hB,h1,h2,h3,h4⟩:=hb;have h':=h.blk b t cs hB h1 h2 h3 h4;exact Eq.trans h' (Eq.symm hB)
theorem KeepsR.fr{W W':World}(h:KeepsR W W'){b:Nat}(hb:Fr W b):Fr W' b:=by
 obtain⟨t,cs,hB,h1,h2,h3,h4⟩:=hb;exact⟨t,cs,h.blk b t cs hB h1 h2 h3 h4,h1,h2,h3,h4⟩
theorem KeepsR.ops{W W':World}(h:KeepsR W W'){v:Value}{l:List POp}(hO:Zl W (Fr W) v l):Zl W' (Fr W') v l:=hO.stay (fun _ hb _=>h.heap hb) (fun _ hb _=>h.fr hb)
theorem KeepsR.chs{W W':World}(h:KeepsR W W'){v:Value}{l:List Chg}(hO:Yx W (Fr W) v l):Yx W' (Fr W') v l:=hO.stay (fun _ hb _=>h.heap hb) (fun _ hb _=>h.fr hb)
def OpB(w:World)(b:Nat):Prop:=∃ cs,Blk w b 278 cs
theorem OpB.fr{w:World}{b:Nat}(h:OpB w b):Fr w b:=by
 obtain⟨cs,hB⟩:=h;exact⟨_,cs,hB,by decide,by decide,by decide,by decide⟩
theorem Zl.fr{w:World}{v:Value}{l:List POp}(h:Zl w (OpB w) v l):Zl w (Fr w) v l:=h.stay (fun _ _ _=>rfl) (fun _ hb _=>hb.fr)
theorem KeepsR.opb{W W':World}(h:KeepsR W W'){v:Value}{l:List POp}(hO:Zl W (OpB W) v l):Zl W' (OpB W') v l:=hO.stay (fun _ hb _=>h.heap hb.fr) (fun _ hb _=>by
 obtain⟨cs,hB⟩:=hb;exact⟨cs,h.blk _ _ _ hB (by decide) (by decide) (by decide) (by decide)⟩)
theorem Zl.touchB{w w':World}{L:List Nat}{v:Value}{l:List POp}(h:Zl w (OpB w) v l)(ht:Touch L w w')(hL:∀ i ∈ L,∀ cs,¬ Blk w i 278 cs):Zl w' (OpB w') v l :=
 h.stay (fun b hb hlt=>by
  obtain⟨cs,hB⟩:=hb;exact ht.block b hlt (fun hm=>hL b hm _ hB)) (fun b hb _=>by
  obtain⟨cs,hB⟩:=hb;exact⟨cs,hB.touch ht (fun hm=>hL b hm _ hB)⟩)
theorem Zu.touchLow{w w':World}{L:List Nat}{base:Nat}{v:Value}{T:Tab}(h:Zu w base v T)(ht:Touch L w w')(hn:∀ i ∈ L,i<base):Zu w' base v T:=by
 obtain⟨vs,hl,ho,hh⟩:=h;refine⟨vs,hl,Zj ho ht (fun b hb hm=>?_),fun k b u h1 h2=>(hh k b u h1 h2).keep (fun b cs hle hB=>hB.touch ht (fun hm=>?_))⟩
 ·have h1:=(ho.lt b hb).1;have h2:=hn b hm;omega
 ·have h2:=hn b hm;omega
end
section
open Go.RowKit Go.Shelf
attribute [local go_sem] Oper.semAt_some
structure KeepM (W W':World):Prop where
 same:∀ (k:Nat) (o:Obj),W.heap[k]?=some o->J6 o=true->W'.heap[k]?=some o
theorem KeepM.trans{A B C:World}(h:KeepM A B)(k:KeepM B C):KeepM A C:=⟨fun i o hi ho=>k.same i o (h.same i o hi ho) ho⟩
theorem KeepM.below{W W':World}(h:Below W.heap.size W W'):KeepM W W':=⟨fun k _ ho _=>(h.block k (Qc ho)).trans ho⟩
theorem Zji{n l:Nat}{P:Program}{ops:Array Oper}{Q:Exit->Act->World->Prop}(hQ:¬ LetsOut Q)(hL:∀ (i:Nat) (o:Oper),ops[i]?=some o->O6 o=true)(i:Nat){K:Act->World->Prop}{a:Act}{w:World}(h:wpOp P ops Q i K a w):wpOpIn (lW.inRound l) n P ops Q i K a w:=by
 unfold wpOp at h;unfold wpOpIn;cases ho:ops[i]? with
 | none=>rw[ho] at h;exact h
 | some o =>
  rw[ho] at h;dsimp only at h ⊢;split at h
  ·rename_i hw;rw[if_pos hw];rcases h with h | ⟨_,h⟩
   ·refine⟨fun _ _=>trivial,?_⟩;rw[Oper.semAt_plain _ _ _ (fun c hc=>by have:=hL i o ho;simp[O6,hc] at this)];exact Z8b l _ h
   ·exact absurd h hQ
  ·rename_i hw;rw[if_neg hw];exact⟨fun _ _=>trivial,h⟩
theorem Z9n{n l:Nat}{P:Program}{ops:Array Oper}{Q:Exit->Act->World->Prop}{md:Region.Mode}(hQ:¬ LetsOut Q)(hL:∀ (i:Nat) (o:Oper),ops[i]?=some o->O6 o=true):∀ (fuel:Nat) (listed:Array Bool) (a:Act) (w:World),wpAny P md ops Q fuel listed a w->wpAnyIn (lW.inRound l) n P md ops Q fuel listed a w
 | 0,_,_,_,h=>h
 | fuel+1,_,_,_,h=>⟨h.1,fun i hi=>wpOpIn_mono (fun a w=>Z9n hQ hL fuel _ a w) (Zji hQ hL i (h.2 i hi))⟩
theorem Zjj{P:Program}{Q:Exit->Act->World->Prop}{a:Act}{w:World}{l:List Oper}(S:World->Prop)(segs:List Seg)(last:List Nat)(t0:Nat)(tl:List Nat)(hB:O3 .any l.toArray segs last t0 tl=true)
  (hQ:∀ c d v a w,Q (.panic c) (Act.put a d v) w->Q (.panic c) a w) (hS:S w.drew) (h:Y4 P l.toArray Q S l last (t0 :: tl) segs a w.drew):wpAny P .any l.toArray Q l.toArray.size (nA l.toArray.size false) a w.drew:=by
 simp only[O3,l8,decide_eq_true_eq] at hB;obtain⟨⟨⟨⟨⟨⟨hsel,hs⟩,hc⟩,hlen⟩,hn1⟩,hlt⟩,hsg⟩:=hB;have hlt':∀ i ∈ (Xa segs++last)++t0 :: tl,i<l.toArray.size:=fun i hi=>by have:=lU.1 hlt i hi;simpa using this
 have inv0:HeadL .any l.toArray (t0 :: tl) (nA l.toArray.size false) :=
  ⟨by simp,fun j oj _ hl=>(by rw[nB] at hl;cases hl),fun t ht=>getD_in (by simpa using hlt' t (lV.2 (.inr ht))) (nB _ _)⟩
 have:=Oy _ _ _ _ (Z3n (md:=.any) (l:=l) (last:=last) rfl hsel hs hc (fun i hi=>by have:=lU.1 hn1 i hi;simpa using this) hlt' hQ (fun i hi=>lV.2 (.inr hi)) segs _ a w.drew hS (fun i hi=>lV.2 (.inl hi)) inv0 hsg h);rw[show (Xa segs).length+(last.length+(t0 :: tl).length)=l.toArray.size by rw[nC];exact hlen] at this;exact this
theorem Z9o{n k id:Nat}{P:Program}{Q:Exit->Act->World->Prop}{a:Act}{w:World}{l:List Oper}(S:World->Prop)(segs:List Seg)(last:List Nat)(t0:Nat)(tl:List Nat)(hm:P.follows .mixedOrders=true)(hB:O3 .any l.toArray segs last t0 tl=true)
  (hQ:∀ c d v a w,Q (.panic c) (Act.put a d v) w->Q (.panic c) a w) (hO:¬ LetsOut Q) (hL:l.all O6=true) (hS:S w.drew) (h:Y4 P l.toArray Q S l last (t0 :: tl) segs a w.drew):(Code.region id l.toArray true).wpIn (lW.inRound k) n P Q a w :=
 wpIn_region_any hm (Z9n hO (fun i o hi=>lU.1 hL o (by
  have : l[i]?=some o:=by simpa using hi
  exact List.mem_of_getElem? this)) _ _ _ _ (Zjj S segs last t0 tl hB hQ hS h))
end
section
set_option maxHeartbeats 4000000
open Go.RowKit Go.Shelf
def Z9p{α:Type}(Kp:World->World->Prop)(I:List α->World->Prop)(xs:List α)(W:World):Exit->Act->World->Prop
 | .normal,_,W'=>KeepM W W'/\Kp W W'/\I xs W'
 | _,_,_=>False
def Yields{α:Type}(f:FuncId)(caps:Array Value)(Enc:α->Array Value->World->Prop)(xs:List α)(Kq Kp:World->World->Prop)(w:World):Prop :=
 ∀ (l:Nat) (J:List α->World->Prop) (W:World),Below w.heap.size w W->(∀ pre A B,J pre A->Kq A B->J pre B) ->
  (∀ pre x r vs A,J pre A->xs=pre++x :: r->Enc x vs A->YieldAt lW (0 - 1 - 1) lA l vs A fun e B=>e=.returned (.bool true)/\J (pre++[x]) B/\Kp A B)->J [] W ->
  CallsIn lW (0 - 1) lA f (#[.func (.yield l) #[] #[]]++caps) W fun e W'=>(∃ v,e=.returned v)/\J xs W'
theorem Zo3{α:Type}{g:Operand}{ps:Array Tmp}{assign body:Code}{Q:Exit->Act->World->Prop}{a:Act}{w:World}(f:FuncId)(caps:Array Value)(Enc:α->Array Value->World->Prop)(xs:List α)(Kq Kp:World->World->Prop)
  (hg:a.eval g=.func (.func f) #[] caps) (hcf:∀ args W,(callFunc f args).run lA W=.ok (.enter f args) W) (hps:∀ x vs W,Enc x vs W->vs.size=ps.size) (hEm:∀ x vs A l (o o':Obj),Enc x vs A->w.heap.size<=l->A.heap[l]?=some o->J6 o=true->Enc x vs (A.putObj l o')) (hy:Yields f caps Enc xs Kq Kp w)
  (hqm:∀ A B,Kq A B->KeepM A B) (hpt:∀ A B C,Kp A B->Kp B C->Kp A C) (hpm:∀ A l (o o':Obj),w.heap.size<=l->A.heap[l]?=some o->J6 o=true->Kp A (A.putObj l o'))
  (I:List α->World->Prop) (hIq:∀ pre A B,I pre A->Kq A B->I pre B) (hIm:∀ pre A l (o o':Obj),I pre A->w.heap.size<=l->A.heap[l]?=some o->J6 o=true->I pre (A.putObj l o'))
  (hIa:∀ o1 o2,J6 o1=true->J6 o2=true->I [] ((w.alloc o1).alloc o2)) (a₁:Array Value->Act)
  (hassign:∀ (l:Nat) (vs:Array Value) (W:World) (K:Act->World->Prop),vs.size=ps.size->K (a₁ vs) W ->
   assign.wpIn (lW.inRound l) 0 lA (Exit.then K (fun _ _ _=>False)) { tmps:=(ps.zip vs).foldl (fun t (p,v)=>t.setIfInBounds p v) a.tmps,defers:=[] } W)
  (hbody:∀ (l:Nat) (pre:List α) (x:α) (r:List α) (vs:Array Value) (W:World),I pre W->xs=pre++x :: r->Enc x vs W->body.wpIn (lW.inRound l) 0 lA (Z9p Kp I (pre++[x]) W) (a₁ vs) W)
  (hdone:∀ (D:Nat) (W:World),w.heap.size<=D->I xs W->W.heap[D]?=some (.deferred (some []))->Q .normal { a with defers:={ target:=.collected D,args:=#[] } :: a.defers } W) :
  (nD g ps assign body).wp lA Q a w:=by
 refine (lX (n:=0)).1 (wpIn_rangeFunc ?_);intro fn hfn;rw[show lW.round=none from rfl];obtain⟨rec,hrec⟩:∃ rec:LoopState->Option Code->Loop,rec=fun st pe=>{ state:=st,pending:=pe,fn,tmps:=a.tmps,params:=ps,assign,body,defers:=w.heap.size }:=⟨_,rfl⟩;obtain⟨W1,hW1⟩:∃ W1,(w.alloc (.deferred (some []))).alloc (.loop (rec .ready none))=W1:=⟨_,rfl⟩;have hL1:W1.heap[w.heap.size+1]?=some (.loop (rec .ready none)):=by
  rw[<-hW1];have:=lO (w.alloc (.deferred (some []))) (.loop (rec .ready none));rwa [nE] at this
 have hK1:W1.heap[w.heap.size]?=some (.deferred (some [])):=by
  rw[<-hW1];exact (lQ _ _ _ (by simp)).trans (lO w _)
 have hI1:I [] W1:=by rw[<-hW1];exact hIa _ _ rfl rfl
 have hb1:Below w.heap.size w W1:=by rw[<-hW1];exact bL.alloc (by simp) _
 refine⟨w.heap.size+1,[{ target:=.collected w.heap.size,args:=#[] }],W1,{ target:=.fn (.func f) caps,args:=#[.func (.yield (w.heap.size+1)) #[] #[]] },W1,f,
  #[.func (.yield (w.heap.size+1)) #[] #[]]++caps,W1,?_,?_,?_,?_,fun h=>(by cases h),?_⟩
 ·rw[<-hW1,hrec];exact nF _ _ _ _ _
 ·simp only[resolve,hg];simp[go_sem]
 ·exact fun _ _=>trivial
 ·simp only[invoke];exact hcf _ _
 ·refine (hy (w.heap.size+1) (fun pre W=>I pre W/\W.heap[w.heap.size+1]?=some (.loop (rec .ready none))/\W.heap[w.heap.size]?=some (.deferred (some []))) W1 hb1 ?_ ?_ ⟨hI1,hL1,hK1⟩).mono ?_
  ·rintro pre A B ⟨hi,hl,hk⟩ hq;exact⟨hIq _ _ _ hi hq,(hqm _ _ hq).same _ _ hl rfl,(hqm _ _ hq).same _ _ hk rfl⟩
  ·rintro pre x r vs W ⟨hi,hl,hk⟩ hr he;have hlt:w.heap.size+1<W.heap.size:=(lE.1 hl).1;have hy:=run_yield (P:=lA) (args:=vs) hl (by rw[hrec];simp[hps _ _ _ he]);rw[hrec] at hy;refine⟨fn,_,assign,body,hy,roundIn_of_wpIn hfn (hassign _ vs W _ (hps _ _ _ he) ⟨_,run_beginRound hl (by rw[hrec]),?_⟩)⟩;have hl2:(W.putObj (w.heap.size+1) (.loop { rec .ready none with state:=.busy })).heap[w.heap.size+1]?=some (.loop { rec .ready none with state:=.busy }):=lP hlt;have hk2:(W.putObj (w.heap.size+1) (.loop { rec .ready none with state:=.busy })).heap[w.heap.size]?=some (.deferred (some [])):=(lF (by omega)).trans hk;have hw2:Kp W (W.putObj (w.heap.size+1) (.loop { rec .ready none with state:=.busy })):=hpm _ _ _ _ (by omega) hl rfl;refine wpIn_mono (hbody _ pre x r vs _ (hIm _ _ _ _ _ hi (by omega) hl rfl) hr (hEm _ _ _ _ _ _ he (by omega) hl rfl)) ?_;have fin:∀ (W3:World),KeepM (W.putObj (w.heap.size+1) (.loop { rec .ready none with state:=.busy })) W3 ->
     (Instr.endRound (w.heap.size+1) none).run lA W3=.ok (.bool true) (W3.putObj (w.heap.size+1) (.loop (rec .ready none))) /\
     W3.heap[w.heap.size+1]?=some (.loop { rec .ready none with state:=.busy }) /\
     (W3.putObj (w.heap.size+1) (.loop (rec .ready none))).heap[w.heap.size+1]?=some (.loop (rec .ready none)) /\
     (W3.putObj (w.heap.size+1) (.loop (rec .ready none))).heap[w.heap.size]?=some (.deferred (some [])):=fun W3 hk3=>by
    have hl3:=hk3.same _ _ hl2 rfl;have:=run_endRound (P:=lA) none hl3;rw[hrec] at this ⊢;exact⟨this,by rw[hrec] at hl3;exact hl3,lP (lE.1 hl3).1,(lF (by omega)).trans (hk3.same _ _ hk2 rfl)⟩
   rintro e a3 W3 hp;cases e with
   | normal =>
    obtain⟨hk3,hkp3,hi3⟩:=hp;obtain⟨hr,hl3,hl4,hk4⟩:=fin W3 hk3;exact⟨_,_,hr,rfl,⟨hIm _ _ _ _ _ hi3 (by omega) hl3 rfl,hl4,hk4⟩,hpt _ _ _ (hpt _ _ _ hw2 hkp3) (hpm _ _ _ _ (by omega) hl3 rfl)⟩
   | ret=>exact hp.elim
   | exit id=>exact hp.elim
   | goto t=>exact hp.elim
   | panic ch=>exact hp.elim
   | outgrown=>exact hp.elim
  ·rintro e W2 ⟨⟨v,rfl⟩,hi,hl,hk⟩;exact⟨none,_,by have:=run_endLoop (P:=lA) hl (by rw[hrec];simp);rw[hrec] at this;exact this,hdone _ _ (lD _) (hIm _ _ _ _ _ hi (by omega) hl rfl) ((lF (by omega)).trans hk)⟩
theorem Z53{α:Type}{g:Operand}{ps:Array Tmp}{assign body:Code}{Q:Exit->Act->World->Prop}{a:Act}{w:World}(f:FuncId)(caps:Array Value)(Enc:α->Array Value->World->Prop)(xs:List α)(Kq Kp:World->World->Prop)
  (hg:a.eval g=.func (.func f) #[] caps) (hcf:∀ args W,(callFunc f args).run lA W=.ok (.enter f args) W) (hps:∀ x vs W,Enc x vs W->vs.size=ps.size)  (hy:Yields f caps Enc xs Kq Kp w)
  (hqm:∀ A B,Kq A B->KeepM A B) (hpt:∀ A B C,Kp A B->Kp B C->Kp A C) (hpm:∀ A l (o o':Obj),w.heap.size<=l->A.heap[l]?=some o->J6 o=true->Kp A (A.putObj l o'))
  (I:List α->World->Prop) (hIq:∀ pre A B,I pre A->Kq A B->I pre B) (hIm:∀ pre A l (o o':Obj),I pre A->w.heap.size<=l->A.heap[l]?=some o->J6 o=true->I pre (A.putObj l o'))
  (hIa:∀ o1 o2,J6 o1=true->J6 o2=true->I [] ((w.alloc o1).alloc o2)) (Ia:List α->α->Act->World->Prop) (hIam:∀ pre x a' A l (o o':Obj),Ia pre x a' A->w.heap.size<=l->A.heap[l]?=some o->J6 o=true->Ia pre x a' (A.putObj l o'))
  (hassign:∀ (l:Nat) (pre:List α) (x:α) (r:List α) (vs:Array Value) (W:World) (K:Act->World->Prop),I pre W->xs=pre++x :: r->Enc x vs W->(∀ a' W',KeepM W W'->Kp W W'->Ia pre x a' W'->K a' W') ->
   assign.wpIn (lW.inRound l) 0 lA (Exit.then K (fun _ _ _=>False)) { tmps:=(ps.zip vs).foldl (fun t (p,v)=>t.setIfInBounds p v) a.tmps,defers:=[] } W)
  (hbody:∀ (l:Nat) (pre:List α) (x:α) (r:List α) (a':Act) (W:World),Ia pre x a' W->xs=pre++x :: r->body.wpIn (lW.inRound l) 0 lA (Z9p Kp I (pre++[x]) W) a' W)
  (hdone:∀ (D:Nat) (W:World),w.heap.size<=D->I xs W->W.heap[D]?=some (.deferred (some []))->Q .normal { a with defers:={ target:=.collected D,args:=#[] } :: a.defers } W) :
  (nD g ps assign body).wp lA Q a w:=by
 refine (lX (n:=0)).1 (wpIn_rangeFunc ?_);intro fn hfn;rw[show lW.round=none from rfl];obtain⟨rec,hrec⟩:∃ rec:LoopState->Option Code->Loop,rec=fun st pe=>{ state:=st,pending:=pe,fn,tmps:=a.tmps,params:=ps,assign,body,defers:=w.heap.size }:=⟨_,rfl⟩;obtain⟨W1,hW1⟩:∃ W1,(w.alloc (.deferred (some []))).alloc (.loop (rec .ready none))=W1:=⟨_,rfl⟩;have hL1:W1.heap[w.heap.size+1]?=some (.loop (rec .ready none)):=by
  rw[<-hW1];have:=lO (w.alloc (.deferred (some []))) (.loop (rec .ready none));rwa [nE] at this
 have hK1:W1.heap[w.heap.size]?=some (.deferred (some [])):=by
  rw[<-hW1];exact (lQ _ _ _ (by simp)).trans (lO w _)
 have hI1:I [] W1:=by rw[<-hW1];exact hIa _ _ rfl rfl
 have hb1:Below w.heap.size w W1:=by rw[<-hW1];exact bL.alloc (by simp) _
 refine⟨w.heap.size+1,[{ target:=.collected w.heap.size,args:=#[] }],W1,{ target:=.fn (.func f) caps,args:=#[.func (.yield (w.heap.size+1)) #[] #[]] },W1,f,
  #[.func (.yield (w.heap.size+1)) #[] #[]]++caps,W1,?_,?_,?_,?_,fun h=>(by cases h),?_⟩
 ·rw[<-hW1,hrec];exact nF _ _ _ _ _
 ·simp only[resolve,hg];simp[go_sem]
 ·exact fun _ _=>trivial
 ·simp only[invoke];exact hcf _ _
 ·refine (hy (w.heap.size+1) (fun pre W=>I pre W/\W.heap[w.heap.size+1]?=some (.loop (rec .ready none))/\W.heap[w.heap.size]?=some (.deferred (some []))) W1 hb1 ?_ ?_ ⟨hI1,hL1,hK1⟩).mono ?_
  ·rintro pre A B ⟨hi,hl,hk⟩ hq;exact⟨hIq _ _ _ hi hq,(hqm _ _ hq).same _ _ hl rfl,(hqm _ _ hq).same _ _ hk rfl⟩
  ·rintro pre x r vs W ⟨hi,hl,hk⟩ hr he;have hlt:w.heap.size+1<W.heap.size:=(lE.1 hl).1;have hy:=run_yield (P:=lA) (args:=vs) hl (by rw[hrec];simp[hps _ _ _ he]);rw[hrec] at hy;refine⟨fn,_,assign,body,hy,roundIn_of_wpIn hfn (hassign _ pre x r vs W _ hi hr he (fun a' Wa hka hpa hia=>?_))⟩;have hla:=hka.same _ _ hl rfl;have hlka:=hka.same _ _ hk rfl;have hlta:w.heap.size+1<Wa.heap.size:=(lE.1 hla).1;refine⟨_,run_beginRound hla (by rw[hrec]),?_⟩;have hl2:(Wa.putObj (w.heap.size+1) (.loop { rec .ready none with state:=.busy })).heap[w.heap.size+1]?=some (.loop { rec .ready none with state:=.busy }):=lP hlta;have hk2:(Wa.putObj (w.heap.size+1) (.loop { rec .ready none with state:=.busy })).heap[w.heap.size]?=some (.deferred (some [])):=(lF (by omega)).trans hlka;have hw2:Kp Wa (Wa.putObj (w.heap.size+1) (.loop { rec .ready none with state:=.busy })):=hpm _ _ _ _ (by omega) hla rfl;refine wpIn_mono (hbody _ pre x r a' _ (hIam _ _ _ _ _ _ _ hia (by omega) hla rfl) hr) ?_;have fin:∀ (W3:World),KeepM (Wa.putObj (w.heap.size+1) (.loop { rec .ready none with state:=.busy })) W3 ->
     (Instr.endRound (w.heap.size+1) none).run lA W3=.ok (.bool true) (W3.putObj (w.heap.size+1) (.loop (rec .ready none))) /\
     W3.heap[w.heap.size+1]?=some (.loop { rec .ready none with state:=.busy }) /\
     (W3.putObj (w.heap.size+1) (.loop (rec .ready none))).heap[w.heap.size+1]?=some (.loop (rec .ready none)) /\
     (W3.putObj (w.heap.size+1) (.loop (rec .ready none))).heap[w.heap.size]?=some (.deferred (some [])):=fun W3 hk3=>by
    have hl3:=hk3.same _ _ hl2 rfl;have:=run_endRound (P:=lA) none hl3;rw[hrec] at this ⊢;exact⟨this,by rw[hrec] at hl3;exact hl3,lP (lE.1 hl3).1,(lF (by omega)).trans (hk3.same _ _ hk2 rfl)⟩
   rintro e a3 W3 hp;cases e with
   | normal =>
    obtain⟨hk3,hkp3,hi3⟩:=hp;obtain⟨hr,hl3,hl4,hk4⟩:=fin W3 hk3;exact⟨_,_,hr,rfl,⟨hIm _ _ _ _ _ hi3 (by omega) hl3 rfl,hl4,hk4⟩,hpt _ _ _ (hpt _ _ _ (hpt _ _ _ hpa hw2) hkp3) (hpm _ _ _ _ (by omega) hl3 rfl)⟩
   | ret=>exact hp.elim
   | exit id=>exact hp.elim
   | goto t=>exact hp.elim
   | panic ch=>exact hp.elim
   | outgrown=>exact hp.elim
  ·rintro e W2 ⟨⟨v,rfl⟩,hi,hl,hk⟩;exact⟨none,_,by have:=run_endLoop (P:=lA) hl (by rw[hrec];simp);rw[hrec] at this;exact this,hdone _ _ (lD _) (hIm _ _ _ _ _ hi (by omega) hl rfl) ((lF (by omega)).trans hk)⟩
end
section
set_option maxRecDepth 100000
set_option maxHeartbeats 8000000
open Go.Lib renaming hid → iD
open Go.Proofs.Tryz
open Go.RowKit Go.Shelf
attribute [local go_sem] Oper.semAt_some
theorem Zjk(A:Option Addr)(n c:Nat)(w:World):Calls lA 146 #[.slice A n c,.int .i64 32] w fun e w'=>e=.returned (.func (.func 226) #[] #[.pointer (some ⟨w.heap.size,0,none⟩),.pointer (some ⟨w.heap.size+1,0,none⟩)])/\Blk w' w.heap.size 57 [.slice A n c]/\Blk w' (w.heap.size+1) 3 [.int .i64 32]/\Below w.heap.size w w':=by
 have hmf:∀ (fn:Fn) (first cap:Array Value) (w:World),(Instr.makeFunc fn first cap).run lA w=.ok (.func fn first cap) w:=fun _ _ _ _=>rfl;go_enter func146,ntmps146;go_wp2_with fail;go_returns;exact⟨rfl,(Blk.new_at (cs:=[.slice A n c]) rfl).alloc _,Blk.new_at (cs:=[.int .i64 32]) (by simp),by go_grown⟩
def Z9q(A:Option Addr)(i:Nat)(vs:Array Value)(_:World):Prop:=vs=#[.slice (cutA A (i*32+32) (i*32) 1) 32 32]
def Z0p(sb nb:Nat)(A B:World):Prop:=B.heap[sb]?=A.heap[sb]?/\B.heap[nb]?=A.heap[nb]?
def Z9r(A B:World):Prop:=∃ q,B=A.drewN q
theorem Zjl{k j:Nat}(h:j<k):∃ r,lC k=lC j++j :: r:=by
 refine⟨(lC k).drop (j+1),?_⟩;have h1:(lC k).take j=lC j:=by rw[List.take_range,Nat.min_eq_left (by omega)]
 have h2:(lC k).drop j=j :: (lC k).drop (j+1):=by
  rw[List.drop_eq_getElem_cons (by simpa using h),List.getElem_range]
 rw[<-h1,<-h2,List.take_append_drop]
theorem Zjm{P:Program}{w:World}{o:Oper}{a:Act}(t:TypeId)(x lo:Operand)(ho:o.op=.slice t x (some lo) none none)(elem:TypeId)(s:Nat)(hu:P.underlying t=some (.slice elem))(hs:(P.info? elem).map (·.size)=some s)(A:Option Addr)(n cap k:Nat)
  (hx:a.eval x=.slice A n cap) (hlo:a.eval lo=.int .i64 (k:Int)) (hk:k<=n):(execOp a.eval o).run P w=.ok (.value (.slice (cutA A cap k s) (n - k) (cap - k))) w:=by
 simp only[execOp,ho,hx,hlo,Option.map_some,Option.map_none,l5,Z12 w t elem s hu hs A n cap k hk,l6,l7]
theorem Zjn(A:Option Addr)(n k c sb nb:Nat)(hnk:n=k*32)(hc:n<=c)(hk:k<=256)(w:World)(hs:Blk w sb 57 [.slice A n c])(hn:Blk w nb 3 [.int .i64 32]) :
    Yields 226 #[.pointer (some ⟨sb,0,none⟩),.pointer (some ⟨nb,0,none⟩)] (Z9q A) (lC k) Z9r (Z0p sb nb) w:=by
  intro l J W hb hJ hY h0;have hs1:=hs.below hb hs.lt;have hn1:=hn.below hb hn.lt;clear hs hn hb;replace hJ:=iD hJ;replace hY:=iD hY;refine callsIn_of_wp func226 rfl trivial ?_ rfl;simp only[ntmps226,List.size_toArray,nC,List.length_nil,Nat.reduceAdd,Nat.reduceSub,Array.replicate_succ,Array.replicate_zero,List.push_toArray,List.append_toArray,List.nil_append,List.cons_append]
  gi_wp2
  gi_loopw [4] (fun i wr=>∃ j p:Nat,j<=k/\p=j*32/\i=.int .i64 (p:Int)/\Blk wr sb 57 [.slice A n c]/\Blk wr nb 3 [.int .i64 32]/\J (lC j) wr) (fun i _=>n - (intOf i).toNat)
  case atStart=>exact⟨0,0,lN _,rfl,rfl,hs1,hn1,h0⟩
  case round =>
    obtain⟨j,p,hj,hp,rfl,hs2,hn2,hj2⟩:=hrel;have c1:wr.cell? ⟨sb,0,none⟩=some (.slice A n c):=hs2.cell 0;have c2:wr.cell? ⟨nb,0,none⟩=some (.int .i64 32):=hn2.cell 0;by_cases hlt:j<k
    · have d1:decide (p<n)=true:=decide_eq_true (by omega)
      have hp8:p<=8192:=by omega
      obtain⟨m,hm⟩:∃ m,m=n - p:=⟨_,rfl⟩;have hm32:32<=m:=by omega
      have hmi:(decide ((m:Int)<32))=false:=decide_eq_false (by omega);have hs3:∀ W,(Instr.sliceAt 57 (.slice A n c) (some (.int .i64 (p:Int))) (some (.int .i64 ((p:Int)+32))) (some (.int .i64 ((p:Int)+32)))).run lA W=.ok (.slice (cutA A (p+32) p 1) 32 32) W:=fun W=>by
        have:=Z7x (P:=lA) W 57 5 1 underlying57 (by kernel_rfl) A n c p (p+32) (p+32) (by omega) (lD _) (by omega);rw[show p+32 - p=32 by omega] at this;exact this
      obtain⟨r,hr⟩:=Zjl hlt;have hYY:∀ nq,YieldAt lW (0 - 1 - 1) lA l #[.slice (cutA A (p+32) p 1) 32 32] (wr.drewN nq) fun e B=>e=.returned (.bool true)/\J (lC j++[j]) B/\Z0p sb nb (wr.drewN nq) B:=fun nq =>
        hY.out (lC j) j r _ _ (hJ.out _ _ _ hj2 ⟨nq,rfl⟩) hr (by show _=_;rw[hp])
      have hss:=hs2;have hnn:=hn2;replace hs2:=iD hs2;replace hn2:=iD hn2;replace hYY:=iD hYY;have hnx:=iD (show j+1<=k/\p+32=(j+1)*32 by omega);have hmn:n - p=m:=hm.symm;have hpn:p<=n:=by omega
      have hmin:min (32:Int) (m:Int)=32:=Int.min_eq_left (by omega);clear hj2 hr hs1 hn1 h0;replace hm:=iD hm;replace hp:=iD hp;replace hnk:=iD hnk
      gi_wp2
      refine lX.2 ?_;refine Y7 6 (by kernel_rfl) (by kernel_rfl) ?_;simp only[l0,l1,l2,l3];repeat (first
        | (refine Zc (Op.slice 57 (.tmp 14) (some (.tmp 15)) none none) rfl rfl (.slice (cutA A c p 1) m (c - p)) (fun w' _=>?_) ?_
           · rw[<-hmn]
             exact Zjm 57 (.tmp 14) (.tmp 15) rfl 5 1 underlying57 (by kernel_rfl) A n c p rfl rfl hpn
           go_frame)
        | go_big_quiet_step (fail))
      refine lB ?_;rintro _ ⟨nq,rfl⟩;obtain⟨fn,tmps,assign,body,hy,hR⟩:=hYY.out nq;have e1:(wr.drewN nq).cell? ⟨sb,0,none⟩=some (.slice A n c):=c1;have hss3:=hss.drewN nq;have hnn3:=hnn.drewN nq;clear hYY c1 c2 hss hnn hs2 hn2;replace hss3:=iD hss3;replace hnn3:=iD hnn3;generalize wr.drewN nq=w3 at hy hR e1 hss3 hnn3 ⊢;go_wp2_with fail
      gi_wp2
      refine⟨rfl,hR.mono ?_⟩;rintro e W3 ⟨rfl,hJ3,hk1,hk2⟩;have hss4:Blk W3 sb 57 [.slice A n c]:=hk1.trans hss3.out;have hnn4:Blk W3 nb 3 [.int .i64 32]:=hk2.trans hnn3.out;have c2:W3.cell? ⟨nb,0,none⟩=some (.int .i64 32):=hnn4.cell 0;clear hy hR hss3 hnn3 hk1 hk2 e1;replace hss4:=iD hss4;replace hnn4:=iD hnn4;replace hJ3:=iD hJ3
      gi_wp2
      go_roundw
      case rel=>exact⟨j+1,p+32,hnx.out.1,hnx.out.2,by simp,hss4.out,hnn4.out,by rw[List.range_succ];exact hJ3.out⟩
      case measure=>simp[intOf];omega
    · obtain rfl:j=k:=by omega
      have d1:decide (p<n)=false:=decide_eq_false (by omega);replace hnk:=iD hnk;replace hp:=iD hp;replace hj2:=iD hj2
      gi_wp2
      go_end0;exact⟨⟨_,rfl⟩,hj2.out⟩
end
end Go.Proofs.YtefjlobdifjogaaGreatDoor
