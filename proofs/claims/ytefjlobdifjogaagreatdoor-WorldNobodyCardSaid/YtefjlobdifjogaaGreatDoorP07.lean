import Derived.Deep.RegionWith
import Derived.Test.YtefjlobdifjogaaGreatDoorP05
import Derived.Deep.DeepCutAuto
import Derived.Lib.IndexLaws
import Derived.RangeFuncNested
import Derived.RangeFuncBound
import Derived.RangeFuncCalls
import Derived.RangeFuncLeaves
import Derived.Shelf.RegionOpen
import Derived.OwnWalkIn
import Derived.TacticsInMore
import Derived.LoopNIn
import Derived.LoopIn
import Derived.RangeFuncMany
import Derived.RangeFuncKeeps
import Derived.WalkMore
open Array renaming getElem?_eq_some_iff → l2
open ByteArray renaming ext → lZ
open Go renaming rounds_succ → lG, wp_loop_rounds → lL, wpQuiet_nil → lR, bodyPost_end → lX, results_none → lY, wpList_plain → l1
open Go.Fence renaming wide → nK
open Go.Instr renaming buildSlice → lO, sliceAt → lQ, build → nA, makeSlice → nG, slice → nI, sliceBounds → nJ
open Go.Obj renaming cells → lF
open Go.Oper renaming wp → lH
open Go.Proofs.Tryz renaming prog → lA
open Go.Region renaming wanted → lM
open Go.Result renaming andThen_ok → lK
open Go.RowKit.Below renaming refl → lN
open Go.Sem renaming run_bind → lI, run_pure → lJ
open Go.Value renaming ownBlock → lW, cells → nD, slice → nE
open Go.World renaming alloc → lD, alloc_heap_new → nL, putObj_heap_other → nM
open List renaming exists_cons_of_length_eq_add_one → lB, length_cons → lP, map_cons → lS, map_nil → lT, mem_cons → lU, getElem?_cons_zero → l4, take_succ_cons → l5, take_zero → l6, drop_succ_cons → l7, drop_zero → l8, map_toArray → l9, length_eq_zero_iff → nB, cons_append → nC, take_length → nF
open Nat renaming le_refl → lE, le_trans → lV, lt_of_lt_of_le → nH
open Nat.succ renaming inj → lC
open Option renaming mem_toList → nN
namespace Go.Proofs.YtefjlobdifjogaaGreatDoor
section
set_option maxRecDepth 100000
set_option maxHeartbeats 1000000
open Go.Lib renaming hid → iD
open Go.Proofs.Tryz
open Go.RowKit
theorem Z03{w:World}{g:Nat}{t:TypeId}{cs:List Value}(h:Blk w g t cs):w.setRow g cs.toArray=w:=by
 have e:(w.heap.modify g fun | .cells _ elem frozen=>.cells cs.toArray elem frozen | o=>o)=w.heap:=by
  apply Array.ext_getElem?;intro k;rw[Array.getElem?_modify];by_cases hk:g=k
  ·subst hk;have h1:w.heap[g]?=some (.cells cs.toArray t (0,0)):=h;rw[if_pos rfl,h1];rfl
  ·rw[if_neg hk]
 show ({ w with heap:=w.heap.modify g fun | .cells _ elem frozen=>.cells cs.toArray elem frozen | o=>o }:World)=w;rw[e]
theorem Z1v:(lA.info? 261).map (·.size)=some 34:=by kernel_rfl
theorem Zdq(tb nb mb ab:Nat)(es us:List (Value × Value))(w:World)(h:TreeAt w tb nb mb ab 0 es us Z0) :
  Calls lA 298 #[.pointer (some ⟨tb,0,none⟩),.int .i64 0] w fun e w'=>e=.returned (.tuple #[Y8 Zh,.bool false,.bool true])/\w'=w.alloc (.cells (Z4 Zh).toArray 261):=by
 have hmade:=iD (fun W=>Z1q tb nb mb ab 0 es us Z0 W);have hz:=iD (show ∀ v ∈ Z4 Zh,v.oneCell'=true by decide);replace h:=iD h;go_enter func298,ntmps298;go_wp2_with fail;generalize hW1:lD w (lF _ 261)=W1;have hW1':=iD hW1;have hb1:Below w.heap.size w W1:=by rw[<-hW1];exact bL
 have hB1:Blk W1 w.heap.size 261 (Z4 Zh):=by rw[<-hW1];exact Blk.new_at (cs:=Z4 Zh) rfl
 have hT:=h.out.below hb1;have c0:=hT.tree.cell 0;have c3:=hT.tree.cell 3;have d4:W1.cell? ⟨nb,37,none⟩=some Z0:=hT.root.cell 37;simp only[l4,List.getElem?_cons_succ] at c0 c3;have hroot:=iD hT.root;replace hmade:=iD (hmade.out W1 hT);replace hb1:=iD hb1;replace hB1:=iD hB1;clear hW1 hT h;refine hmade.out.mono ?_;rintro e W2 ⟨rfl,rfl⟩;go_wp2_with (first
  | (refine Xj rfl 261 (.tmp 45) rfl nb 0 rfl 332 (Yl Zh 0 true Z0 Z0) (Z4 Zh) [B 0,.bool true,Z0,Z0] hroot.out rfl _ underlying261 rfl Z1v ?_)
  | (refine Zd rfl 261 (.tmp 4) (.tmp 46) rfl w.heap.size (Z4 Zh) rfl rfl 261 (Z4 Zh) hB1.out rfl Z1v hz.out ?_)
  | fail)
 exact Z1r rfl w.heap.size 261 (Z4 Zh) _ rfl (hB1.out.setRow_same _) underlying261 rfl Z1v rfl _ _ rfl rfl ⟨rfl,(Z03 hB1.out).trans hW1'.out.symm⟩
theorem Z7k{t k e:TypeId}(ht:lA.underlying t=some (.map k e)){w:World}{b:Nat}(h:Z8 w b []):∃ c,(Instr.range t (.map (some b))).run lA w=.ok (.pointer (some ⟨w.heap.size,0,none⟩)) (w.alloc (.mapIter (some b) c #[] c)) /\
  ∀ ty,(Instr.next (.pointer (some ⟨w.heap.size,0,none⟩)) false ty).run lA (w.alloc (.mapIter (some b) c #[] c))=.ok (.tuple #[.bool false]) (w.alloc (.mapIter (some b) c #[] c)):=by
 obtain⟨xs,c,hb,hx⟩:=h;have hxs:xs=#[]:=by simpa using hx
 subst hxs;refine⟨c,run_range_map w t k e b #[] c ht hb,fun ty=>?_⟩;rcases run_next_map (P:=lA) w ty b c c #[] #[] c hb (by simp) (lE _) with ⟨_,h⟩ | ⟨x,hx,_⟩
 ·exact h
 ·simp[leftOf] at hx
theorem Z3u:(Z4 Zh).toArray=#[.bool false,.int .u8 0,.int .u8 0,.int .u8 0,.int .u8 0,.int .u8 0,.int .u8 0,.int .u8 0,.int .u8 0,.int .u8 0,.int .u8 0,.int .u8 0,.int .u8 0,.int .u8 0,.int .u8 0,.int .u8 0,.int .u8 0,.int .u8 0,.int .u8 0,.int .u8 0,.int .u8 0,.int .u8 0,.int .u8 0,.int .u8 0,.int .u8 0,.int .u8 0,.int .u8 0,.int .u8 0,.int .u8 0,.int .u8 0,.int .u8 0,.int .u8 0,.int .u8 0,.int .i64 0]:=rfl
theorem Zdr:(lA.info? 332).map (·.size)=some 38:=by kernel_rfl
theorem Zds:∃ j,lA.info? 332=some j:=by
 have h:=Zdr;cases hq:lA.info? 332 with
 | none=>simp[hq] at h
 | some j=>exact⟨j,rfl⟩
theorem Zdt(tb nb mb ab cc t1 t3:Nat)(es:List (Value × Value))(w:World)(h:TreeAt w tb nb mb ab 0 es [] Z0)(h1:Blk w t1 145 [.pointer (some ⟨tb,0,none⟩)]) :
  Calls lA 297 #[.pointer (some ⟨nb,0,none⟩),.pointer (some ⟨cc,0,none⟩),.pointer (some ⟨t1,0,none⟩),.pointer (some ⟨t3,0,none⟩)] w fun e w'=>e=.returned (.pointer (some ⟨w.heap.size,0,none⟩))/\Below w.heap.size w w':=by
 have c34:w.cell? ⟨nb,34,none⟩=some (B 0):=h.root.cell 34;have c35:w.cell? ⟨nb,35,none⟩=some (.bool true):=h.root.cell 35;have hBn:∀ w',(∃ n,w'=w.drewN n)->Blk w' nb 332 (Yl Zh 0 true Z0 Z0):=by rintro _ ⟨n,rfl⟩;exact h.root.drewN n
 replace hBn:=iD hBn;obtain⟨jn,hjn⟩:=Zds;have hne:=fun w=>Lib.run_neq_ptr_same (P:=lA) (w:=w) (tp:=330) (te:=332) ⟨nb,0,none⟩ underlying330 hjn;clear hjn;replace h:=iD h;replace h1:=iD h1;go_enter func297,ntmps297;go_wp2_with fail;refine Y7 12 (by kernel_rfl) (by kernel_rfl) ?_;simp only[l5,l6,l7,l8];repeat (first | go_big_quiet_step (fail) | (refine Yq 261 (.tmp 13) rfl rfl nb 0 rfl 332 (Yl Zh 0 true Z0 Z0) (Z4 Zh) [B 0,.bool true,Z0,Z0] (fun w hw=>hBn.out w hw) rfl _ underlying261 rfl Z1v ?_;go_frame))
 refine lR ?_;rintro _ ⟨nq,rfl⟩;clear c34 c35;rw[Z3u];have k36:∀ o,((w.drewN nq).alloc o).cell? ⟨nb,36,none⟩=some Z0:=fun o=>((h.out.root.drewN nq).alloc o).cell 36;have k37:∀ o,((w.drewN nq).alloc o).cell? ⟨nb,37,none⟩=some Z0:=fun o=>((h.out.root.drewN nq).alloc o).cell 37;have k1:∀ o,((w.drewN nq).alloc o).cell? ⟨t1,0,none⟩=some (.pointer (some ⟨tb,0,none⟩)):=fun o=>((h1.out.drewN nq).alloc o).cell 0;have k2:∀ o,((w.drewN nq).alloc o).cell? ⟨tb,0,none⟩=some (.pointer (some ⟨nb,0,none⟩)):=fun o=>((h.out.tree.drewN nq).alloc o).cell 0;go_wp2_with fail;refine lL 1 ?_;rw[lG];go_wp2_with fail;refine lL 1 ?_;rw[lG];go_wp2_with fail;go_returns;exact⟨rfl,by have h9:=Touch.drewN (w:=w) (L:=[]) nq;exact (h9.below (lE _) (fun _ hi=>by cases hi)).alloc (by simp) _⟩
theorem Zdu(tb nb mb ab:Nat)(es:List (Value × Value))(w:World)(h:TreeAt w tb nb mb ab 0 es [] Z0) :
  Calls lA 243 #[.pointer (some ⟨tb,0,none⟩)] w fun e w'=>∃ cb,e=.returned (.pointer (some ⟨cb,0,none⟩))/\Below w.heap.size w w':=by
 have hmade:=iD (fun W=>Z1q tb nb mb ab 0 es [] Z0 W);replace h:=iD h;go_enter func243,ntmps243;go_wp2_with fail;generalize hW1:lD w (lF _ 145)=W1;have hb1:Below w.heap.size w W1:=by rw[<-hW1];exact bL
 have hB1:Blk W1 w.heap.size 145 [.pointer (some ⟨tb,0,none⟩)]:=by rw[<-hW1];exact Blk.new_at (cs:=[.pointer (some ⟨tb,0,none⟩)]) rfl
 have hT:=h.out.below hb1;clear hW1 h;refine (hmade.out W1 hT).mono ?_;rintro e W2 ⟨rfl,rfl⟩;have c1:W2.cell? ⟨w.heap.size,0,none⟩=some (.pointer (some ⟨tb,0,none⟩)):=hB1.cell 0;replace hT:=iD hT;replace hB1:=iD hB1;replace hb1:=iD hb1;go_wp2_with fail;refine (Z3s _).mono ?_;rintro e W3 ⟨tc,nc,mc,ac,rfl,hC,e1,e2,e3,e4,hb3⟩;replace hC:=iD hC;replace hb3:=iD hb3;clear c1;go_wp2_with fail;generalize hW4:lD W3 (lF _ 145)=W4;have hb4:Below W3.heap.size W3 W4:=by rw[<-hW4];exact bL
 have hB4:Blk W4 W3.heap.size 145 [.pointer (some ⟨tc,0,none⟩)]:=by rw[<-hW4];exact Blk.new_at (cs:=[.pointer (some ⟨tc,0,none⟩)]) rfl
 have hb24:Below W2.heap.size W2 W4:=hb3.out.trans (hb4.mono hb3.out.size);have hT4:=hT.out.below hb24;have hC4:=hC.out.below hb4;have hB14:=hB1.out.below hb24 hB1.out.lt;have cT3:W4.cell? ⟨W3.heap.size,0,none⟩=some (.pointer (some ⟨tc,0,none⟩)):=hB4.cell 0;have cT1:W4.cell? ⟨w.heap.size,0,none⟩=some (.pointer (some ⟨tb,0,none⟩)):=hB14.cell 0;have cS:W4.cell? ⟨tb,3,none⟩=some (.int .i64 0):=hT4.tree.cell 3;have cC:W4.cell? ⟨tc,3,none⟩=some (.int .i64 0):=hC4.tree.cell 3;have fC:=hC4.tree.frozen 3;obtain⟨W5,hW5⟩:∃ W5,W5=(W4.setCell ⟨tc,3,none⟩ (.int .i64 0)).drew:=⟨_,rfl⟩;have hb5:Below W2.heap.size W2 W5:=by rw[hW5];exact (hb24.setCell (by show W2.heap.size<=tc;omega) _).drew
 have hT5:=hT.out.below hb5;have hB15:=hB1.out.below hb5 hB1.out.lt;have hB45:Blk W5 W3.heap.size 145 [.pointer (some ⟨tc,0,none⟩)]:=by
  rw[hW5];exact (hB4.far (by
   have:=hC.out.tree.lt;show W3.heap.size ≠ tc;omega) _).drew
 have hC5:Blk W5 tc 342 [.pointer (some ⟨nc,0,none⟩),.map (some mc),.map (some ac),.int .i64 0]:=by
  rw[hW5];exact (hC4.tree.set_ 3 (.int .i64 0)).drew
 replace hT4:=iD hT4;clear hB14 hC4 hb24;replace hT5:=iD hT5;replace hb5:=iD hb5;replace hB15:=iD hB15;replace hB45:=iD hB45;replace hC5:=iD hC5;replace hW5:=iD hW5;replace hb4:=iD hb4;replace hB4:=iD hB4;clear hW4;go_region;rw[<-hW5.out];have d1:W5.cell? ⟨w.heap.size,0,none⟩=some (.pointer (some ⟨tb,0,none⟩)):=hB15.out.cell 0;have d2:W5.cell? ⟨tb,2,none⟩=some (.map (some ab)):=hT5.out.tree.cell 2;obtain⟨ck,hrg,hnx⟩:=Z7k underlying41 hT5.out.added;clear cT3 cT1 cS cC fC;go_wp2_with fail;refine lL 1 ?_;rw[lG];go_wp2_with fail;generalize hW6:lD (lD W5 _) (lF _ 406)=W6;have hb6:Below W5.heap.size W5 W6:=by rw[<-hW6];exact bL.alloc (by simp) _
 have hcp:Hid (Calls lA 297 #[.pointer (some ⟨nb,0,none⟩),.pointer (some ⟨W5.heap.size+1,0,none⟩),.pointer (some ⟨w.heap.size,0,none⟩),.pointer (some ⟨W3.heap.size,0,none⟩)] W6.drew fun e w'=>e=.returned (.pointer (some ⟨W6.heap.size,0,none⟩))/\Below W6.heap.size W6.drew w'):=iD (Zdt tb nb mb ab _ _ _ es W6.drew ((hT5.out.below hb6).below (lN _ _).drew) ((hB15.out.below hb6 hB15.out.lt).drew));have k6:W6.cell? ⟨W5.heap.size+1,0,none⟩=some (.func (.func 297) #[] #[.pointer (some ⟨W5.heap.size+1,0,none⟩),.pointer (some ⟨w.heap.size,0,none⟩),.pointer (some ⟨W3.heap.size,0,none⟩)]):=by
  rw[<-hW6];exact (Blk.new_at (cs:=[.func (.func 297) #[] #[.pointer (some ⟨W5.heap.size+1,0,none⟩),.pointer (some ⟨w.heap.size,0,none⟩),.pointer (some ⟨W3.heap.size,0,none⟩)]]) (by simp)).cell 0
 have k7:W6.cell? ⟨W3.heap.size,0,none⟩=some (.pointer (some ⟨tc,0,none⟩)):=(hB45.out.below hb6 hB45.out.lt).cell 0;have k8:W6.cell? ⟨w.heap.size,0,none⟩=some (.pointer (some ⟨tb,0,none⟩)):=(hB15.out.below hb6 hB15.out.lt).cell 0;have k9:W6.cell? ⟨tb,0,none⟩=some (.pointer (some ⟨nb,0,none⟩)):=(hT5.out.below hb6).tree.cell 0;have hfac:=iD (fun w7 (hb7:Below W6.heap.size W6.drew w7)=>(show w7.cell? ⟨W3.heap.size,0,none⟩=some (.pointer (some ⟨tc,0,none⟩))/\w7.cell? ⟨tc,0,none⟩=some (.pointer (some ⟨nc,0,none⟩))/\w7.frozen? ⟨tc,0,none⟩=false/\(∀ u,(w7.setCell ⟨tc,0,none⟩ u).cell? ⟨W3.heap.size,0,none⟩=some (.pointer (some ⟨tc,0,none⟩)))/\Below w.heap.size w w7 by
  have q1:Blk W6 W3.heap.size 145 [.pointer (some ⟨tc,0,none⟩)]:=hB45.out.below hb6 hB45.out.lt;have q2:=hC5.out.below hb6 hC5.out.lt;have q3:=q2.drew.below hb7 q2.lt;refine⟨(q1.drew.below hb7 q1.lt).cell 0,q3.cell 0,q3.frozen 0,fun u=>((q1.drew.below hb7 q1.lt).far (p:=⟨tc,0,none⟩) (by have:=hC.out.tree.lt;show W3.heap.size ≠ tc;omega) u).cell 0,?_⟩;exact (((hb1.out.trans (hb5.out.mono hb1.out.size)).trans (hb6.mono (by have:=hb1.out.size;have:=hb5.out.size;omega))).drew).trans (hb7.mono (by have:=hb1.out.size;have:=hb5.out.size;have:=hb6.size;omega))))
 clear hW6 hrg hnx d1 d2 hb6;go_region_with (go_at_call 297;refine hcp.out.mono ?_;rintro e w7 ⟨rfl,hb7⟩;obtain⟨g1,g2,g3,g5,g4⟩:=hfac.out w7 hb7;replace g4:=iD g4);all_goals (go_wp2_with fail;go_returns;exact⟨_,rfl,g4.out.setCell (by show w.heap.size<=tc;have:=hb1.out.size;omega) _⟩)
end
section
open Go.RowKit
theorem G5{P:Program}(w:World){ops:Array Oper}{op:Oper}{a:Act}{K:Act->World->Prop}{Q:Exit->Act->World->Prop}{E:Prop}(hgd:op.guard=none)(ty:TypeId)(x y:Operand)(ho:op.op=.store ty x y)
  (g:Nat) (cells:List Value) (hx:a.eval x=.pointer (some ⟨g,0,none⟩)) (hy:a.eval y=.agg cells.toArray) (t:TypeId) (old:List Value) (hg:Blk w g t old) (hl:old.length=cells.length)
  (hi:(P.info? ty).map (·.size)=some cells.length) (h1:∀ v ∈ cells,v.oneCell'=true) (h:K (a.put op.dst undef) (w.setRow g cells.toArray)) :
  if lM op (yielded ops a.tmps)=true then lH P op a w K Q else E:=by
 have hw:lM op (yielded ops a.tmps)=true:=by simp[lM,hgd]
 rw[if_pos hw];unfold lH execOp;simp only[ho,hx,hy,Instr.storeAt,Instr.sureAddr,lI,lJ,lK,
  run_storeVar_row (P:=P) w g t ty old.toArray cells.toArray hg (by simpa using hi) (by simpa using hl) (all_oneCell_toArray h1)]
 exact h
theorem J0{P:Program}(w w':World){ops:Array Oper}{o:Oper}{a:Act}{K:Act->World->Prop}{Q:Exit->Act->World->Prop}{E:Prop}(hgd:o.guard=none)(v:Value)
  (hrun:(execOp a.eval o).run P w=.ok (.value v) w') (h:K (a.put o.dst v) w'):if lM o (yielded ops a.tmps)=true then lH P o a w K Q else E:=by
 have hw:lM o (yielded ops a.tmps)=true:=by simp[lM,hgd]
 rw[if_pos hw];unfold lH;rw[hrun];exact h
theorem Jy{P:Program}{w w':World}{o:Oper}{a:Act}(t:TypeId)(x:Operand)(ho:o.op=.buildSlice t 1 #[(0,x)])(V r:Value)(hx:a.eval x=V)(h:(lO t 1 #[(0,V)]).run P w=.ok r w'):(execOp a.eval o).run P w=.ok (.value r) w':=by
 simp only[execOp,ho,l9,lS,lT,hx,lI,h,lK,lJ]
theorem Zf1{P:Program}{w:World}{o:Oper}{a:Act}(t:TypeId)(i0 i1 i2 i3:Nat)(x0 x1 x2 x3:Operand)(ho:o.op=.build t #[(i0,x0),(i1,x1),(i2,x2),(i3,x3)])(V0 V1 V2 V3 r:Value)(h0:a.eval x0=V0)(h1:a.eval x1=V1)(h2:a.eval x2=V2)(h3:a.eval x3=V3)
  (h:(nA t #[(i0,V0),(i1,V1),(i2,V2),(i3,V3)]).run P w=.ok r w):(execOp a.eval o).run P w=.ok (.value r) w:=by
 simp only[execOp,ho,l9,lS,lT,h0,h1,h2,h3,lI,h,lK,lJ]
end
section
set_option maxRecDepth 100000
set_option maxHeartbeats 1000000
open Go.Lib renaming hid → iD
open Go.Proofs.Tryz
open Go.RowKit
theorem Z80(r:PRef):∀ v ∈ Z4 r,v.oneCell'=true:=by
 intro v hv;simp only[Z4,lU,List.mem_append,List.mem_map,List.not_mem_nil,or_false] at hv;rcases hv with rfl | ⟨_,_,rfl⟩ | rfl <;> rfl
def G6(tb:Nat)(ops:Value):List Value:=[.pointer (some ⟨tb,0,none⟩),Z0,.int .i64 0,.int .i64 0,ops]
theorem Zf2(r:PRef)(c:UInt8)(hr:r.com.length=32)(w:World):(nA 278 #[(0,.int .i64 1),(1,.bool false),(2,.agg (Z4 r).toArray),(3,B c)]).run lA w=.ok (.agg (Z9 ⟨1,false,r,c⟩).toArray) w:=by
 obtain⟨o,d,n⟩:=r;dsimp only at hr
 iterate 32 (rcases d with _ | ⟨_,d⟩;· (exfalso;simp at hr;done))
 obtain rfl:d=[]:=by
  simp only[lP] at hr;exact nB.1 (by omega)
 kernel_rfl
theorem Z81(x:POp)(hr:x.at_.com.length=32)(w:World):(lO 152 1 #[(0,.agg (Z9 x).toArray)]).run lA w=.ok (.slice (some ⟨w.heap.size,0,none⟩) 1 1) (w.alloc (.cells (Z9 x).toArray 278)):=by
 obtain⟨k,l,⟨o,d,n⟩,c⟩:=x;dsimp only at hr
 iterate 32 (rcases d with _ | ⟨_,d⟩;· (exfalso;simp at hr;done))
 obtain rfl:d=[]:=by
  simp only[lP] at hr;exact nB.1 (by omega)
 kernel_rfl
theorem Z46:InfoOf lA 278 (.agg (Z9 ⟨0,false,Zh,0⟩).toArray) 37 72:=⟨by kernel_rfl,rfl,by omega⟩
structure PutAt (W0 W:World) (tb gb p:Nat) (l:List POp) (m:Nat):Prop where
 touch:Touch [gb,p] W0 W
 at_:Blk W p 261 (Z4 (Xd m))
 row:∃ V,Blk W gb 356 (G6 tb V)/\W.ownsRow W0.heap.size 278 37 V m (Yg l)
theorem Touch.under{L:List Nat}{w w1 w2:World}(h:Touch L w w1)(hb:Below w.heap.size w1 w2):Touch L w w2 :=
 ⟨hb.os.trans h.os,hb.tape.trans h.tape,hb.output.trans h.output,lV h.size hb.size,fun i hi hn=>(hb.block i hi).trans (h.block i hi hn)⟩
theorem Touch.setRow{L:List Nat}{w:World}{g:Nat}(hg:g ∈ L)(c:Array Value):Touch L w (w.setRow g c):=Touch.grown (Z7z c) (fun b hb=>by cases hb;exact hg)
theorem Z47:∀ (a:Str) (k:Nat) (c:UInt8),Jd k (a++[c])=Jd k a++[Zb (k+a.length) c]
 | [],_,_=>rfl
 | x :: a,k,c=>by
  simp only[nC,Jd,Z47 a (k+1) c,lP];rw[show k+1+a.length=k+(a.length+1) by omega]
theorem Zf3(a b:List POp):Yg (a++b)=Yg a++Yg b:=List.flatMap_append
theorem Z82{t:Str}{m:Nat}(h:m<t.length):Yg (chain (t.take (m+1)))=Yg (chain (t.take m))++Z9 (Zb m t[m]):=by
 rw[Z1u h];unfold chain;rw[Z47,Zf3,List.length_take_of_le (by omega),Nat.zero_add];simp[Yg]
theorem Ys{w:World}{base n k g:Nat}{e t:TypeId}{v:Value}{xs cs:List Value}(h:w.ownsRow base e k v n xs)(hB:Blk w g t cs)(hne:t ≠ e):some g ≠ v.ownBlock:=fun he=>by
 rcases h.2 with ⟨rfl,_⟩ | ⟨g',cap,cur,rfl,_,hg,_⟩
 ·cases he
 ·have e':g=g':=by
   simp[lW] at he;exact he
  subst e';have h1:=hB.symm.trans hg
  injection h1 with h1
  injection h1 with _ h2
  exact hne h2
theorem J1{w:World}{base base':Nat}{e:TypeId}{n k:Nat}{v:Value}{xs:List Value}(hb:base'<=base)(h:w.ownsRow base e k v n xs):w.ownsRow base' e k v n xs:=by
 rcases h with ⟨h1,⟨h2,h3⟩ | ⟨g,cap,cur,h2,h3,h4⟩⟩
 ·exact⟨h1,.inl ⟨h2,h3⟩⟩
 ·exact⟨h1,.inr ⟨g,cap,cur,h2,lV hb h3,h4⟩⟩
theorem Z83(m:Nat):Xd (m+1)=Kv (m+1):=if_neg (by omega)
theorem Zf4(t:Str)(ht:t.length<=1000)(tb nb mb ab gb:Nat)(es us:List (Value × Value))(w:World)(h:TreeAt w tb nb mb ab 0 es us Z0)(hm:Blk w gb 356 (G6 tb Z0)) :
  Calls lA 246 #[.pointer (some ⟨gb,0,none⟩),.agg #[.int .i64 3,.int .i64 0,Z1 t]] w fun e w'=>e=.returned (.tuple #[])/\∃ V,Blk w' gb 356 (G6 tb V)/\w'.ownsRow w.heap.size 278 37 V t.length (Yg (chain t))/\Touch [gb] w w':=by
 have hsl:(⟨t.toArray⟩:ByteArray).size=t.length:=G2 t;have hz:=iD (show ∀ v ∈ Z4 Zh,v.oneCell'=true by decide);replace h:=iD h;replace hm:=iD hm;unfold Z1;go_enter func246,ntmps246;go_wp2_with fail;generalize hW1:lD w (lF _ 247)=W1;have hb1:Below w.heap.size w W1:=by rw[<-hW1];go_grown
 have hE1:Blk W1 w.heap.size 247 [.int .i64 3,.int .i64 0,Z1 t]:=by rw[<-hW1];exact Blk.new_at (cs:=[.int .i64 3,.int .i64 0,Z1 t]) rfl
 have hT1:=h.out.below hb1;have hm1:=hm.out.below hb1 hm.out.lt;have c0:W1.cell? ⟨gb,0,none⟩=some (.pointer (some ⟨tb,0,none⟩)):=hm1.cell 0;have c3:W1.cell? ⟨gb,3,none⟩=some (.int .i64 0):=hm1.cell 3;have hgap:=iD (fun W2 (hb:Below W1.heap.size W1 W2)=>Zdq tb nb mb ab es us W2 (hT1.below hb));have k0:∀ o,(W1.alloc o).cell? ⟨gb,0,none⟩=some (.pointer (some ⟨tb,0,none⟩)):=fun o=>(hm1.alloc o).cell 0;have k3:∀ o,(W1.alloc o).cell? ⟨gb,3,none⟩=some (.int .i64 0):=fun o=>(hm1.alloc o).cell 3;have l0:∀ o,(W1.drew.alloc o).cell? ⟨gb,0,none⟩=some (.pointer (some ⟨tb,0,none⟩)):=fun o=>(hm1.drew.alloc o).cell 0;have l3:∀ o,(W1.drew.alloc o).cell? ⟨gb,3,none⟩=some (.int .i64 0):=fun o=>(hm1.drew.alloc o).cell 3;replace hT1:=iD hT1;replace hm1:=iD hm1;replace hE1:=iD hE1;replace hb1:=iD hb1;clear hW1;go_upto_region 1 with fail;go_cut [4,5,6] (fun a b c wx=>∃ p,a=.pointer (some ⟨p,0,none⟩)/\b=.bool false/\c=.bool true/\W1.heap.size<=p/\Blk wx p 261 (Z4 Zh)/\Below W1.heap.size W1 wx)
 case first =>
  obtain⟨rv,hrv⟩:∃ rv,rv=Y8 Zh:=⟨_,rfl⟩;obtain⟨cz,hcz⟩:∃ cz,cz=(Z4 Zh).toArray:=⟨_,rfl⟩;have hz1:nD rv=cz:=by rw[hrv,hcz];rfl
  have hz2:cz.size=34:=by rw[hcz];rfl
  have hone:∀ v ∈ cz.toList,v.oneCell'=true:=by rw[hcz];exact hz.out
  have hsA:∀ v,(storeCells ⟨W1.heap.size,0,none⟩ cz.toList).run lA ((W1.alloc (.cells (Z4 Zh).toArray 261)).alloc v).drew=.ok () ((W1.alloc (.cells (Z4 Zh).toArray 261)).alloc v).drew:=fun v=>by
   have hB:=(((Blk.new_at (w:=W1) (g:=W1.heap.size) (t:=261) (cs:=Z4 Zh) rfl).alloc v).drew);have h1:=run_storeCells_from (P:=lA) W1.heap.size 261 cz.toList 0 _ _ hB (by rw[hcz];simp) hone;rw[hcz] at h1 ⊢;simpa[Z03 hB] using h1
  have hsB:∀ v,(storeCells ⟨W1.heap.size+1,0,none⟩ cz.toList).run lA ((W1.alloc v).alloc (.cells (Z4 Zh).toArray 261)).drew=.ok () ((W1.alloc v).alloc (.cells (Z4 Zh).toArray 261)).drew:=fun v=>by
   have hB:=(Blk.new_at (w:=W1.alloc v) (g:=W1.heap.size+1) (t:=261) (cs:=Z4 Zh) (by simp)).drew;have h1:=run_storeCells_from (P:=lA) (W1.heap.size+1) 261 cz.toList 0 _ _ hB (by rw[hcz];simp) hone;rw[hcz] at h1 ⊢;simpa[Z03 hB] using h1
  simp only[nD] at hz1;rw[<-hrv,<-hcz] at hgap;rw[Z3u] at hsA hsB;replace hcz:=iD hcz;replace hrv:=iD hrv;go_region_held3 (fun w'=>w'.cell? ⟨gb,0,none⟩=some (.pointer (some ⟨tb,0,none⟩))/\w'.cell? ⟨gb,3,none⟩=some (.int .i64 0)) (first | exact⟨k0 _,k3 _⟩ | exact⟨l0 _,l3 _⟩ | go_keep)
   (first | (go_at_call 298;(with_reducible refine (hgap.out _ (by go_grown)).mono ?_);rintro e w7 ⟨rfl,rfl⟩))
  all_goals (go_wp2_with fail;go_meet;rw[<-Z3u,hcz.out];first
   | exact⟨W1.heap.size,rfl,rfl,rfl,lE _,(((Blk.new_at (cs:=Z4 Zh) rfl).alloc _).drew),by go_grown⟩
   | exact⟨W1.heap.size+1,rfl,rfl,rfl,by omega,((Blk.new_at (cs:=Z4 Zh) (by simp)).drew),by go_grown⟩)
 case rest =>
  obtain⟨p,rfl,rfl,rfl,hp,hBp,hbc⟩:=hcut;have hE2:wc.cell? ⟨w.heap.size,2,none⟩=some (.string ⟨t.toArray⟩):=(hE1.out.below hbc hE1.out.lt).cell 2;have hm2:=hm1.out.below hbc hm1.out.lt;clear k0 k3 l0 l3 c0 c3 hgap;have hpe:=iD hp;replace hBp:=iD hBp;replace hbc:=iD hbc;replace hm2:=iD hm2;go_wp2_with fail;go_loopw [5,24] (fun l i wr=>∃ m:Nat,m<=t.length/\l=.bool false/\i=.int .i64 m/\PutAt wc wr tb gb p (chain (t.take m)) m) (fun _ i _=>t.length - (intOf i).toNat)
  case atStart=>exact⟨0,Nat.zero_le _,rfl,rfl,⟨Touch.refl _ _,hBp.out,_,hm2.out,rfl,.inl ⟨rfl,rfl⟩⟩⟩
  case round =>
   obtain⟨m,hm,rfl,rfl,hst⟩:=hrel;obtain⟨V,hV,hrow⟩:=hst.row;obtain⟨FA,fc,rfl,_,_⟩:=Za hrow;by_cases hlt:m<t.length
   ·have i1:(0:Int)<=(m:Int):=by omega
    have i2:(m:Int)<(t.length:Int):=by omega
    have cV:wr.cell? ⟨gb,4,none⟩=some (.slice FA m fc):=hV.cell 4;have hEr:Blk wr w.heap.size 247 [.int .i64 3,.int .i64 0,Z1 t]:=by
     have hE:=(hE1.out.below hbc.out hE1.out.lt).touch hst.touch (by
      have h1:=hm1.out.ne_ hE1.out (by decide);have h2:=hBp.out.ne_ (hE1.out.below hbc.out hE1.out.lt) (by decide);simp;omega)
     exact hE
    have cE:wr.cell? ⟨w.heap.size,2,none⟩=some (.string ⟨t.toArray⟩):=hEr.cell 2;go_upto_region 5 with fail;obtain⟨PS,hPS⟩:∃ PS:World->Prop,∀ x,PS x ↔ x.cell? ⟨gb,4,none⟩=some (.slice FA m fc)/\x.cell? ⟨w.heap.size,2,none⟩=some (.string ⟨t.toArray⟩)/\Blk x p 261 (Z4 (Xd m)):=⟨_,fun _=>Iff.rfl⟩;have s1:∀ s:Cls PS,s.1.cell? ⟨gb,4,none⟩=some (.slice FA m fc):=fun s=>((hPS _).1 s.2).1;have s2:∀ s:Cls PS,s.1.cell? ⟨w.heap.size,2,none⟩=some (.string ⟨t.toArray⟩):=fun s=>((hPS _).1 s.2).2.1;have s3:Hid (∀ w',(∃ s:Cls PS,w'=s.1)->Blk w' p 261 (Z4 (Xd m))):=iD (by rintro _ ⟨s,rfl⟩;exact ((hPS _).1 s.2).2.2);have s4:PS wr.drew:=(hPS _).2 ⟨cV,cE,hst.at_.drew⟩;haveI : Nonempty (Cls PS):=⟨⟨_,s4⟩⟩;replace hPS:=iD hPS;refine Z75 (fun w'=>∃ s:Cls PS,w'=s.1) [0,1,2,3,4,5,6,7,8,9,10,11] [12,13] 14 [15,16] (by kernel_rfl) (by kernel_rfl) (fun _ d _ _ _ h=>by cases d <;> exact h) ⟨⟨_,s4⟩,rfl⟩ ?_;simp only[Z7,lS,lT,Zo,Zn];repeat (first | go_big_quiet_step (fail) | (refine Yq 261 (.tmp 4) rfl rfl p 0 rfl 261 (Z4 (Xd m)) (Z4 (Xd m)) [] s3.out (by simp) _ underlying261 rfl (Qj (Qx m)) ?_;go_frame))
    refine Zc (.build 278 #[(0,.const (.int .i64 1)),(1,.tmp 32),(2,.tmp 33),(3,.tmp 37)]) rfl rfl (.agg (Z9 (Zb m t[m])).toArray) (fun w' _=>Zf1 278 0 1 2 3 (.const (.int .i64 1)) (.tmp 32) (.tmp 33) (.tmp 37) rfl (.int .i64 1) (.bool false) (.agg (Z4 (Xd m)).toArray) (B t[m]) (.agg (Z9 (Zb m t[m])).toArray) rfl rfl rfl rfl (Zf2 (Xd m) t[m] (Qx m) w')) ?_;go_frame;repeat (first | go_big_quiet_step (fail))
    refine lR ?_;intro K hK;refine J0 _ _ rfl _ (Jy 152 (.tmp 38) rfl _ _ rfl (Z81 (Zb m t[m]) (Qx m) _)) ?_;have hB1:Below wr.heap.size wr (wr.drew.alloc (.cells (Z9 (Zb m t[m])).toArray 278)):=by go_grown
    refine hK _ _ ⟨⟨_,(hPS.out _).2 ⟨(hB1.cell (p:=⟨gb,4,none⟩) hV.lt).trans cV,(hB1.cell (p:=⟨w.heap.size,2,none⟩) (World.block_lt_of_cell? _ _ cE)).trans cE,hst.at_.below hB1 hst.at_.lt⟩⟩,rfl⟩ ?_;intro K' hK';refine Vs _ rfl (.tmp 31) (.tmp 39) 152 rfl wc.heap.size 278 _ 37 72 underlying152 Z46 (.slice FA m fc) m (Yg (chain (t.take m))) rfl (hrow.drew.alloc _) (fun _=>True) (some ⟨wr.heap.size,0,none⟩) 1 1 (Z9 (Zb m t[m])) rfl (by rw[Jo (Vq _ (by omega))]) (Rd.of_blk (cs:=Z9 (Zb m t[m])) (r:=[]) (Blk.new_at rfl) (by simp) trivial) (Kw _) (by unfold maxLen;omega) (by omega) (by have:=hst.touch.size;simp;omega) ?_;intro v4 W4 hrow4 hg4 hv4;obtain⟨GA,gc,rfl,_,_⟩:=Za hrow4;have nrow:∀ g t' cs,Blk wr g t' cs->t' ≠ 278->some g ≠ (nE FA m fc).ownBlock:=fun g t' cs hB hn e=>Ys hrow hB hn e;have hg3:Blk W4 gb 356 (G6 tb (.slice FA m fc)):=(hV.below hB1 hV.lt).grown hg4 (nrow _ _ _ hV (by decide));have hE4:Blk W4 w.heap.size 247 [.int .i64 3,.int .i64 0,Z1 t]:=(hEr.below hB1 hEr.lt).grown hg4 (nrow _ _ _ hEr (by decide));have hp4:Blk W4 p 261 (Z4 (Xd m)):=(hst.at_.below hB1 hst.at_.lt).grown hg4 (nrow _ _ _ hst.at_ (by decide));refine hK' _ _ ⟨⟨_,(hPS.out _).2 ⟨hg3.cell 4,hE4.cell 2,hp4⟩⟩,rfl⟩ ?_;have f4:=hg3.frozen 4;have g4:∀ u,(W4.setCell ⟨gb,4,none⟩ u).cell? ⟨gb,4,none⟩=some u:=fun u=>(hg3.set_ 4 u).cell 4;have hp5:∀ u,Blk (W4.setCell ⟨gb,4,none⟩ u) p 261 (Z4 (Xd m)):=fun u=>hp4.far (hp4.ne_ hg3 (by decide)) u
    change wpList _ _ _ _ _ _
    go_frame;have c4:W4.cell? ⟨gb,4,none⟩=some (.slice FA m fc):=hg3.cell 4;go_wp2_with (first
     | (refine Zd rfl 261 (.tmp 4) (.tmp 48) rfl p (Z4 (Kv (m+1))) rfl rfl 261 (Z4 (Xd m)) (hp5 _) (by simp[Z4,Qx,Kv,Yf]) (Qj rfl) (Z80 _) ?_)
     | fail)
    have hs3:=hst.touch.size;have hW4:Below wc.heap.size wr W4:=(hB1.mono hs3).trans (Yo (hrow.drew.alloc _) hg4 (by simp;omega));have t4:Touch [gb,p] wc W4:=hst.touch.under hW4;have hne:gb ≠ p:=hg3.ne_ hp4 (by decide);have t6:Touch [gb,p] W4 ((W4.setCell ⟨gb,4,none⟩ (.slice GA (m+1) gc)).setRow p (Z4 (Kv (m+1))).toArray):=(Touch.setCell _ (by simp)).trans (Touch.setRow (by simp) _) (fun i hi=>.inl hi);refine⟨⟨m+1,by omega,rfl,by go_num,t4.trans t6 (fun i hi=>.inl hi),?_,.slice GA (m+1) gc,(hg3.set_ 4 _).setRow_far hne _,?_⟩,?_⟩
    ·rw[Z83];exact (hp5 _).setRow_same _
    ·rw[Z82 hlt];refine Zj hrow4 t6 (fun b hb hm=>?_);have r1:=Ys hrow4 hg3 (by decide);have r2:=Ys hrow4 hp4 (by decide);rcases lU.1 hm with rfl | hm
     ·exact r1 hb.symm
     ·obtain rfl:b=p:=by simpa using hm
      exact r2 hb.symm
    ·simp[intOf];omega
   ·have hmt:m=t.length:=by omega
    subst hmt;go_wp2_with fail;go_returns;have hs1:=hb1.out.size;have hs2:=hbc.out.size;rw[nF] at hrow;refine⟨rfl,.slice FA t.length fc,hV,J1 (by omega) hrow,?_⟩;refine ((Touch.ofBelow (hb1.out.trans (hbc.out.mono hs1))).trans hst.touch (fun i hi=>?_));rcases lU.1 hi with rfl | hi
    ·exact .inl (by simp)
    ·obtain rfl:i=p:=by simpa using hi
     exact .inr (by omega)
end
section
set_option maxRecDepth 100000
set_option maxHeartbeats 1000000
open Go.Lib renaming hid → iD
open Go.Proofs.Tryz
open Go.RowKit
theorem Zf6(t:Str)(ht:t.length<=1000)(w:World):Calls lA 164 #[.string ⟨#[]⟩,Z1 t] w fun e w'=>∃ A,e=.returned (.slice A 1 1)/\Below w.heap.size w w':=by
 have hsl:(⟨t.toArray⟩:ByteArray).size=t.length:=G2 t;have mk1:∀ W:World,(nG 250 (.int .i64 ((t.length:Int)+1)) (.int .i64 ((t.length:Int)+1))).run lA W=.ok (.slice (some ⟨W.heap.size,0,none⟩) (t.length+1) (t.length+1)) (W.alloc (.cells (madeCells #[.int .i16 0] (t.length+1)) 249)):=fun W=>by
  have h:=run_make_row' 250 249 (.int .i16 0) 2 underlying250 (by kernel_rfl) rfl .i64 .i64 (t.length+1) (by omega) (by omega) W;simpa using h
 have mk2:∀ W:World,(nG 244 (.int .i64 1) (.int .i64 1)).run lA W=.ok (.slice (some ⟨W.heap.size,0,none⟩) 1 1) (W.alloc (.cells #[Z0] 250)):=fun W=>by
  have h:=run_make_row' 244 250 Z0 24 underlying244 (by kernel_rfl) rfl .i64 .i64 1 (by omega) (by omega) W;have e:madeCells #[Z0] 1=#[Z0]:=by kernel_rfl
  rw[e] at h;exact h
 have a1:IntKind.i64.wrap ((t.length:Int)+1)=(t.length:Int)+1:=IntWalk.i64_in _ (by omega);unfold Z1;go_enter func164,ntmps164;go_wp2_with fail;refine lL 2 ?_;rw[lG];go_wp2_with fail;rw[lG];go_wp2_with fail;generalize hW1:lD (lD w _) (lF _ 250)=W1;have hb1:Below w.heap.size w W1:=by rw[<-hW1];go_grown
 have hB1:Blk W1 (w.heap.size+1) 250 [.slice (some ⟨w.heap.size,0,none⟩) (t.length+1) (t.length+1)]:=by rw[<-hW1];exact Blk.new_at (cs:=[.slice (some ⟨w.heap.size,0,none⟩) (t.length+1) (t.length+1)]) (by simp)
 have hB2:∃ cs:List Value,cs.length=t.length+1/\Blk W1 w.heap.size 249 cs:=by
  rw[<-hW1];exact⟨_,by simp[size_madeCells],(Blk.new_at (cs:=(madeCells #[.int .i16 0] (t.length+1)).toList) rfl).alloc _⟩
 clear hW1 mk1 mk2;refine lL 2 ?_;rw[lG];go_wp2_with fail;go_loopw [10] (fun j wr=>∃ m:Nat,m<=t.length+1/\j=.int .i64 ((m:Int) - 1)/\Below w.heap.size w wr/\Blk wr (w.heap.size+1) 250 [.slice (some ⟨w.heap.size,0,none⟩) (t.length+1) (t.length+1)]/\∃ cs:List Value,cs.length=t.length+1/\Blk wr w.heap.size 249 cs) (fun j _=>(intOf j+1).toNat)
 case atStart=>exact⟨t.length+1,lE _,by simp,hb1,hB1,hB2⟩
 case round =>
  obtain⟨m,hm,rfl,hbr,hBr,cs,hcl,hCr⟩:=hrel;by_cases h0:m=0
  ·subst h0;go_wp2_with fail;rw[lG];go_wp2_with fail;go_returns;exact⟨_,rfl,hbr⟩
  ·obtain⟨k,rfl⟩:∃ k,m=k+1:=⟨m - 1,by omega⟩;have e1:((k+1:Nat):Int) - 1=(k:Int):=by omega
   rw[e1];have i1:(0:Int)<=(k:Int):=by omega
   have i2:(k:Int)<(t.length:Int)+1:=by omega
   have i3:(k:Int)<((t.length+1:Nat):Int):=by omega
   have cR:wr.cell? ⟨w.heap.size+1,0,none⟩=some (.slice (some ⟨w.heap.size,0,none⟩) (t.length+1) (t.length+1)):=hBr.cell 0;have cC:wr.cell? ⟨w.heap.size,k,none⟩=some cs[k]:=by rw[hCr.cell];exact List.getElem?_eq_getElem (by omega)
   have fC:=hCr.frozen k;go_wp2_with fail;refine⟨⟨k,by omega,rfl,hbr.setCell (lE _) _,hBr.far (by show w.heap.size+1 ≠ w.heap.size;omega) _,_,?_,hCr.set_ k _⟩,?_⟩
   ·simp[hcl]
   ·simp[intOf]
def Z88(k n:Int)(s:Str):List Value:=[.int .i64 k,.int .i64 n,Z1 s]
theorem Ui{w:World}{base:Nat}{e:TypeId}{k:Nat}{v:Value}{xs:List Value}(h:w.ownsRow base e k v 1 xs):∃ eb cap rest,v=.slice (some ⟨eb,0,none⟩) 1 cap/\base<=eb/\Blk w eb e (xs++rest):=by
 rcases h with ⟨h1,⟨_,h3⟩ | ⟨g,cap,cur,h2,h3,h4,h5,h6,h7,h8⟩⟩
 ·cases h3
 ·refine⟨g,cap,cur.toList.drop (1*k),h2,h3,?_⟩;rw[<-h8,List.take_append_drop];exact h4
theorem Zf7:InfoOf lA 247 (.agg #[.int .i64 0,.int .i64 0,.string ⟨#[]⟩]) 3 32:=⟨by kernel_rfl,rfl,by omega⟩
structure PutSt (W0 W:World) (lb:Nat) (s:Str):Prop where
 below:Below lb W0 W
 low:lb<W.heap.size
 row:∃ V,Blk W lb 83 [V]/\if s=[] then V=Z0 else ∃ eb cap rest,V=.slice (some ⟨eb,0,none⟩) 1 cap/\lb<eb/\Blk W eb 247 (Z88 3 0 s++rest)
theorem PutSt.drewN{W0 W:World}{lb:Nat}{s:Str}(h:PutSt W0 W lb s)(n:Nat):PutSt W0 (W.drewN n) lb s:=by
 have hT:=Touch.drewN (w:=W) (L:=[]) n;obtain⟨V,hV,he⟩:=h.row;have hl:=h.low;refine⟨h.below.trans (hT.below (by omega) (fun _ hi=>by cases hi)),nH hl hT.size,V,hV.drewN n,?_⟩;by_cases hs:s=[]
 ·rw[if_pos hs] at he ⊢;exact he
 ·rw[if_neg hs] at he ⊢;obtain⟨eb,cap,rest,h1,h2,h3⟩:=he;exact⟨eb,cap,rest,h1,h2,h3.drewN n⟩
theorem Zf8(W0 W:World)(lb:Nat)(x:Str)(h:PutSt W0 W lb [])(hx:x ≠ [])(hl:x.length<=1000000) :
  Calls lA 165 #[.int .i64 3,Z1 x,.pointer (some ⟨lb,0,none⟩)] W fun e W'=>e=.returned (.tuple #[])/\PutSt W0 W' lb x:=by
 obtain⟨V,hV,he⟩:=h.row;rw[if_pos rfl] at he;subst he;have cV:W.cell? ⟨lb,0,none⟩=some Z0:=hV.cell 0;have hlow:=h.low;replace h:=iD h;replace hV:=iD hV;have hnil:Hid (∀ o,(W.alloc o).ownsRow (lb+1) 247 3 Z0 0 []):=iD (fun o=>⟨rfl,.inl ⟨rfl,rfl⟩⟩);replace hx:=iD hx;unfold Z1;go_enter func165,ntmps165;go_wp2_with (at_builtin;refine Yt _ rfl (.tmp 19) (.tmp 22) 83 rfl (lb+1) 247 _ 3 32 underlying83 Zf7 Z0 0 [] rfl (hnil.out _) (fun _=>True) (some ⟨W.heap.size,0,none⟩) 1 1 [.int .i64 3,.int .i64 0,.string ⟨#[]⟩] rfl rfl (Rd.of_blk (cs:=[.int .i64 3,.int .i64 0,.string ⟨#[]⟩]) (r:=[]) (Blk.new_at rfl) rfl trivial) (by simp[Value.oneCell']) (by unfold maxLen;omega) (by omega) (by simp;omega) ?_;intro v4 W4 hrow4 hg4 hv4;obtain⟨eb,cap,rest,rfl,hebl,hE⟩:=Ui hrow4;have hB4:Blk W4 lb 83 [Z0]:=(hV.out.alloc _).grown hg4 (by simp[lW]);have cL:=hB4.cell 0;have fL:=hB4.frozen 0;simp only[l4] at cL;have kL:∀ u,(W4.setCell ⟨lb,0,none⟩ u).cell? ⟨eb,2,none⟩=some (.string ⟨#[]⟩):=fun u=>(hE.far (by show eb ≠ lb;omega) u).cell 2;have zL:∀ u,(W4.setCell ⟨lb,0,none⟩ u).frozen? ⟨eb,2,none⟩=false:=fun u=>(hE.far (by show eb ≠ lb;omega) u).frozen 2;have jL:∀ u,(W4.setCell ⟨lb,0,none⟩ u).cell? ⟨lb,0,none⟩=some u:=fun u=>(hB4.set_ 0 u).cell 0;replace hB4:=iD hB4;replace hE:=iD hE;replace hg4:=iD hg4;clear hrow4 hv4;go_frame)
 ·refine lX (v:=.tuple #[]) (lY (by rfl) _ _ _) rfl ⟨rfl,?_⟩;have e:((⟨#[]⟩:ByteArray)++⟨x.toArray⟩)=⟨x.toArray⟩:=Z6f [] x;rw[e];have hsz4:=hg4.out.size;simp at hsz4;refine⟨?_,by simp;omega,_,(hB4.out.set_ 0 _).far (by show lb ≠ eb;omega) _,?_⟩
  ·exact ((((h.out.below.trans ((lN _ _).alloc (by omega) _)).grown hg4.out (by simp;omega) (fun k hk=>by cases hk)).setCell (lE _) _).setCell (by show lb<=eb;omega) _)
  ·rw[if_neg hx.out];exact⟨eb,cap,rest,rfl,by omega,(hE.out.far (by show eb ≠ lb;omega) _).set_ 2 _⟩
theorem Zf9(W0 W:World)(lb:Nat)(s x:Str)(h:PutSt W0 W lb s)(hs:s ≠ [])(hl:x.length<=1000000)(hsl:s.length<=1000000) :
  Calls lA 165 #[.int .i64 3,Z1 x,.pointer (some ⟨lb,0,none⟩)] W fun e W'=>e=.returned (.tuple #[])/\PutSt W0 W' lb (s++x):=by
 obtain⟨V,hV,he⟩:=h.row;rw[if_neg hs] at he;obtain⟨eb,cap,rest,rfl,hlt,hE⟩:=he;have cV:W.cell? ⟨lb,0,none⟩=some (.slice (some ⟨eb,0,none⟩) 1 cap):=hV.cell 0;have c0:W.cell? ⟨eb,0,none⟩=some (.int .i64 3):=hE.cell 0;have c2:W.cell? ⟨eb,2,none⟩=some (.string ⟨s.toArray⟩):=hE.cell 2;have f2:=hE.frozen 2;have q1:(⟨s.toArray⟩:ByteArray).size=s.length:=G2 s;have q2:(⟨x.toArray⟩:ByteArray).size=x.length:=G2 x;replace h:=iD h;replace hV:=iD hV;replace hE:=iD hE;unfold Z1;go_enter func165,ntmps165;go_wp2_with fail
 ·refine lX (v:=.tuple #[]) (lY (by rfl) _ _ _) rfl ⟨rfl,?_⟩;rw[Z6f];refine⟨h.out.below.setCell (by show lb<=eb;omega) _,by have:=h.out.low;simpa using this,_,hV.out.far (by show lb ≠ eb;omega) _,?_⟩;rw[if_neg (by simp[hs])];exact⟨eb,cap,rest,rfl,hlt,hE.out.set_ 2 _⟩
theorem Zfa(t:Str)(ht:t.length<=1000)(h0:t ≠ [])(w:World):Calls lA 85 #[.string ⟨#[]⟩,Z1 t] w fun e w'=>∃ eb cap rest,e=.returned (.tuple #[.slice (some ⟨eb,0,none⟩) 1 cap,.int .i64 0])/\w.heap.size<=eb/\Blk w' eb 247 (Z88 3 0 t++rest)/\Below w.heap.size w w':=by
 have hsl:(⟨t.toArray⟩:ByteArray).size=t.length:=G2 t;have hc:=iD (Zf6 t ht w);have q1:decide ((1000:Int)<(t.length:Int))=false:=decide_eq_false (by omega);unfold Z1 at hc ⊢;replace h0:=iD h0;go_enter func85,ntmps85;go_wp2_with fail;refine hc.out.mono ?_;rintro e W ⟨CA,rfl,hb⟩;replace hb:=iD hb;go_wp2_with fail;generalize hW1:lD W (lF _ 83)=W1;have hp:PutSt W W1 W.heap.size []:=by
  rw[<-hW1];exact⟨bL,by simp,Z0,Blk.new_at (cs:=[Z0]) rfl,by simp⟩
 clear hW1;replace hp:=iD hp;go_loopw [9,10] (fun i j wr=>∃ m:Nat,m<=t.length/\i=.int .i64 0/\j=.int .i64 m/\PutSt W wr W.heap.size (t.take m)) (fun _ j _=>t.length - (intOf j).toNat)
 case atStart=>exact⟨0,Nat.zero_le _,rfl,rfl,hp.out⟩
 case round =>
  obtain⟨m,hm,rfl,rfl,hps⟩:=hrel;by_cases hlt:m<t.length
  ·have i1:(0:Int)<=(m:Int):=by omega
   have i2:(m:Int)<(t.length:Int):=by omega
   have hex:(⟨t.toArray⟩:ByteArray).extract m (m+1)=⟨[t[m]].toArray⟩:=by
    apply lZ;simp[ByteArray.data_extract];rw[List.drop_eq_getElem_cons hlt];rfl
   have hadd:Hid (∀ k,Calls lA 165 #[.int .i64 3,.string ⟨[t[m]].toArray⟩,.pointer (some ⟨W.heap.size,0,none⟩)] (wr.drewN k) fun e W'=>e=.returned (.tuple #[])/\PutSt W W' W.heap.size (t.take (m+1))):=iD (fun k=>by
    rw[Z1u hlt];by_cases hm0:t.take m=[]
    ·have h1:=hps.drewN k;rw[hm0] at h1 ⊢;exact Zf8 W _ _ [t[m]] h1 (by simp) (by simp)
    ·exact Zf9 W _ _ (t.take m) [t[m]] (hps.drewN k) hm0 (by simp) (by simp;omega))
   replace hps:=iD hps;go_wp2_with fail;go_quiet (fail);go_wp2_with fail;go_quiet (fail);go_wp2_with fail;refine (hadd.out _).mono ?_;rintro e w3 ⟨rfl,hp3⟩;replace hp3:=iD hp3;go_wp2_with fail;refine⟨⟨m+1,by omega,rfl,?_,hp3.out⟩,?_⟩
   ·go_num
   ·simp[intOf];omega
  ·have hmt:m=t.length:=by omega
   subst hmt;rw[nF] at hps;obtain⟨V,hV,he⟩:=hps.row;rw[if_neg h0.out] at he;obtain⟨eb,cap,rest,rfl,hlt,hE⟩:=he;have cV:wr.cell? ⟨W.heap.size,0,none⟩=some (.slice (some ⟨eb,0,none⟩) 1 cap):=hV.cell 0;replace hps:=iD hps;replace hE:=iD hE;clear hV;go_wp2_with fail;go_returns;have:=hb.out.size;exact⟨eb,cap,rest,rfl,by omega,hE.out,hb.out.trans (hps.out.below.mono this)⟩
end
section
set_option maxRecDepth 100000
set_option maxHeartbeats 4000000
open Go.Proofs.Tryz
section
section
def Z08:Str->List Str
 | []=>[[]]
 | c :: r=>if c=32 then [] :: Z08 r else match Z08 r with | []=>[[c]] | l :: ls=>(c :: l) :: ls
def Z23:Str->List Str
 | []=>[]
 | c :: r=>if c=10 then [10] :: Z23 r else match Z23 r with | []=>[[c]] | l :: ls=>(c :: l) :: ls
end
section
open Go.RowKit
theorem Zfb(t:Str)(j:Nat):(⟨t.toArray⟩:ByteArray).extract j t.length=⟨(t.drop j).toArray⟩:=by
 apply lZ;simp;exact List.take_of_length_le (by simp)
theorem Z89(t:Str)(j:Nat):(⟨t.toArray⟩:ByteArray).extract 0 j=⟨(t.take j).toArray⟩:=by
 apply lZ;simp
theorem Z8a(w:World)(t:Str)(j:Nat)(hj:j<=t.length):(lQ 9 (.string ⟨t.toArray⟩) none (some (.int .i64 (j:Int))) none).run lA w=.ok (.string ⟨(t.take j).toArray⟩) w:=by
 have hs:(⟨t.toArray⟩:ByteArray).size=t.length:=Jw t;simp[lQ,nI,run_underlying underlying9,nJ,run_sliceBound,hs,hj,Z89]
theorem Zfc(w:World)(t:Str)(j:Nat)(hj:j<=t.length):(lQ 9 (.string ⟨t.toArray⟩) (some (.int .i64 (j:Int))) none none).run lA w=.ok (.string ⟨(t.drop j).toArray⟩) w:=by
 have hs:(⟨t.toArray⟩:ByteArray).size=t.length:=Jw t;simp[lQ,nI,run_underlying underlying9,nJ,run_sliceBound,hs,hj,Zfb]
end
end
section
section
open Go.RowKit Go.Shelf
attribute [local go_sem] Oper.semAt_some
end
section
open Go.RowKit Go.Shelf
def O6(o:Oper):Bool:=match o.op with | .defer _=>false | _=>true
theorem Z8b{n:Nat}{P:Program}{o:Oper}{a:Act}{K:Act->World->Prop}{Q:Exit->Act->World->Prop}(l:Nat):∀ r,o.upon P a K Q r->o.uponIn (nK.inRound l) n P a K Q r:=by
 intro r h;have hd:(nK.inRound l).depth.isSome=true->1<=n:=fun h=>by cases h
 match r with
 | .ok (.value v) w'=>exact h
 | .ok .skip w'=>exact h
 | .ok (.defer d) w'=>exact h
 | .ok (.enter f args) w'=>exact⟨hd,callsIn_wide.2 h⟩
 | .ok (.row row args) w' =>
  refine⟨hd,fun c cs _=>?_⟩;obtain⟨v,w2,h1,h2⟩:=h c cs;exact⟨v,w2,h1,stepsIn_wide.2 h2⟩
 | .ok (.round ..) w'=>exact h.elim
 | .halt (.panic v) w'=>exact h
theorem Z49{n l:Nat}{P:Program}{ops:Array Oper}{Q:Exit->Act->World->Prop}(hQ:¬ LetsOut Q):∀ (L:List Oper) (a:Act) (w:World),L.all O6=true->wpList P ops Q L a w->wpListIn (nK.inRound l) n P ops Q L a w
 | [],a,w,_,h=>h
 | o :: rest,a,w,hL,h=>by
  simp only[List.all_cons,Bool.and_eq_true] at hL;unfold wpList at h;unfold wpListIn;split at h
  ·rename_i hw;rw[if_pos hw];rcases h with h | ⟨_,h⟩
   ·refine⟨fun _ _=>trivial,?_⟩;rw[Oper.semAt_plain _ _ _ (fun c hc=>by have:=hL.1;simp[O6,hc] at this)];refine Z8b l _ ?_;have hrest:=fun a w=>Z49 (n:=n) (l:=l) (P:=P) (ops:=ops) hQ rest a w hL.2;have hm:∀ r,o.upon P a (wpList P ops Q rest) Q r->o.upon P a (wpListIn (nK.inRound l) n P ops Q rest) Q r:=by
     intro r h
     match r with
     | .ok (.value v) w'=>exact hrest _ _ h
     | .ok .skip w'=>exact hrest _ _ h
     | .ok (.defer d) w'=>exact hrest _ _ h
     | .ok (.enter f args) w' =>
      refine Calls.mono h fun e w2 h2=>?_;cases e with
      | returned v=>exact hrest _ _ h2
      | panicked c=>exact h2
      | outgrown=>exact h2
     | .ok (.row row args) w'=>exact Rows.mono h fun v w2 h2=>hrest _ _ h2
     | .ok (.round ..) w'=>exact h.elim
     | .halt (.panic v) w'=>exact h
    exact hm _ h
   ·exact (hQ h).elim
  ·rename_i hw;rw[if_neg hw];exact⟨fun _ _=>trivial,Z49 hQ rest _ _ hL.2 h⟩
theorem Z24{P:Program}{f:FuncId}{fn:Func}{c:Code}{args:Array Value}{w:World}{R:Ending->World->Prop}
  (hf:P.funcs[f]?=some fn) (hb:fn.body=some c)
  (h:c.wp P (bodyPostM nK 0 P fn R) { tmps:=args++Array.replicate (fn.ntmps - args.size) undef,defers:=[] } w):Calls P f args w R :=
 (callsIn_wide (n:=0)).1 (callsIn_of_wp_marks hf hb trivial (wpIn_wide.2 h))
theorem Z25{P:Program}{fn:Func}{tmps:Array Value}{R:Ending->World->Prop}{D:Nat}{W:World}(hD:W.heap[D]?=some (.deferred (some [])))(v:Value)
  (hr:(results fn tmps).run P (W.putObj D (.deferred none))=.ok v (W.putObj D (.deferred none))) (hR:R (.returned v) (W.putObj D (.deferred none))) :
  LeavesInM nK 0 P fn tmps R [{ target:=.collected D,args:=#[] }] .returning W:=by
 refine⟨by simp,.inl ⟨_,_,rfl,run_takeDeferred hD,?_⟩⟩;exact⟨v,hr,hR⟩
end
end
section
section
def Z4a(x:Str):Str:=Lib.trimSuffix x [10]
def Zfd(x:Str):Bool:=(Z08 (Z4a x)).tail.all pok
def Zfe(x:Str):Br:=⟨(Z08 (Z4a x)).headD [],(Z08 (Z4a x)).tail.map pd⟩
def Va(s:Str):Tab:=(Z23 s).map Zfe
def Z09(s:Str):Bool:=(Z23 s).all Zfd && decide (Xk (Va s)=0) && decide (Jv (Va s)=s)
end
section
open Go.RowKit
theorem Zff(a0 a1 a2 a3 a4 a5 a6 a7 a8 a9 a10 a11 a12 a13 a14 a15 a16 a17 a18 a19 a20 a21 a22 a23 a24 a25 a26 a27 a28 a29 a30 a31:Value)(w:World):(lO 22 1 #[(0,.agg #[a0,a1,a2,a3,a4,a5,a6,a7,a8,a9,a10,a11,a12,a13,a14,a15,a16,a17,a18,a19,a20,a21,a22,a23,a24,a25,a26,a27,a28,a29,a30,a31])]).run lA w=.ok (.slice (some ⟨w.heap.size,0,none⟩) 1 1) (w.alloc (.cells #[a0,a1,a2,a3,a4,a5,a6,a7,a8,a9,a10,a11,a12,a13,a14,a15,a16,a17,a18,a19,a20,a21,a22,a23,a24,a25,a26,a27,a28,a29,a30,a31] 59)):=by kernel_rfl
theorem Zfg(l:List Value)(h:l.length=32)(w:World):(lO 22 1 #[(0,.agg l.toArray)]).run lA w=.ok (.slice (some ⟨w.heap.size,0,none⟩) 1 1) (w.alloc (.cells l.toArray 59)):=by
 obtain⟨a0,l,rfl⟩:=lB h;replace h:=lC h;obtain⟨a1,l,rfl⟩:=lB h;replace h:=lC h;obtain⟨a2,l,rfl⟩:=lB h;replace h:=lC h;obtain⟨a3,l,rfl⟩:=lB h;replace h:=lC h;obtain⟨a4,l,rfl⟩:=lB h;replace h:=lC h;obtain⟨a5,l,rfl⟩:=lB h;replace h:=lC h;obtain⟨a6,l,rfl⟩:=lB h;replace h:=lC h;obtain⟨a7,l,rfl⟩:=lB h;replace h:=lC h;obtain⟨a8,l,rfl⟩:=lB h;replace h:=lC h;obtain⟨a9,l,rfl⟩:=lB h;replace h:=lC h;obtain⟨a10,l,rfl⟩:=lB h;replace h:=lC h;obtain⟨a11,l,rfl⟩:=lB h;replace h:=lC h;obtain⟨a12,l,rfl⟩:=lB h;replace h:=lC h;obtain⟨a13,l,rfl⟩:=lB h;replace h:=lC h;obtain⟨a14,l,rfl⟩:=lB h;replace h:=lC h;obtain⟨a15,l,rfl⟩:=lB h;replace h:=lC h;obtain⟨a16,l,rfl⟩:=lB h;replace h:=lC h;obtain⟨a17,l,rfl⟩:=lB h;replace h:=lC h;obtain⟨a18,l,rfl⟩:=lB h;replace h:=lC h;obtain⟨a19,l,rfl⟩:=lB h;replace h:=lC h;obtain⟨a20,l,rfl⟩:=lB h;replace h:=lC h;obtain⟨a21,l,rfl⟩:=lB h;replace h:=lC h;obtain⟨a22,l,rfl⟩:=lB h;replace h:=lC h;obtain⟨a23,l,rfl⟩:=lB h;replace h:=lC h;obtain⟨a24,l,rfl⟩:=lB h;replace h:=lC h;obtain⟨a25,l,rfl⟩:=lB h;replace h:=lC h;obtain⟨a26,l,rfl⟩:=lB h;replace h:=lC h;obtain⟨a27,l,rfl⟩:=lB h;replace h:=lC h;obtain⟨a28,l,rfl⟩:=lB h;replace h:=lC h;obtain⟨a29,l,rfl⟩:=lB h;replace h:=lC h;obtain⟨a30,l,rfl⟩:=lB h;replace h:=lC h;obtain⟨a31,l,rfl⟩:=lB h;replace h:=lC h;obtain rfl:=List.eq_nil_of_length_eq_zero h;exact Zff _ _ _ _ _ _ _ _ _ _ _ _ _ _ _ _ _ _ _ _ _ _ _ _ _ _ _ _ _ _ _ _ w
theorem Zfh{ops:Array Oper}{rest:List Oper}{o:Oper}{a:Act}{w:World}{Q:Exit->Act->World->Prop}(x:Operand)(ho:o.op=.buildSlice 22 1 #[(0,x)])(hgd:o.guard=none)(l:List Value)(hl:l.length=32)
  (hx:a.eval x=.agg l.toArray)
  (h:wpList lA ops Q rest (a.put o.dst (.slice (some ⟨w.heap.size,0,none⟩) 1 1)) (w.alloc (.cells l.toArray 59))):wpList lA ops Q (o :: rest) a w:=by
 refine l1 hgd fun K hK=>?_;unfold lH;have e:(#[(0,x)]:Array (Nat × Operand)).map (fun (i,x)=>(i,a.eval x))=#[(0,.agg l.toArray)]:=by simp[hx]
 have hr:(execOp a.eval o).run lA w=.ok (.value (.slice (some ⟨w.heap.size,0,none⟩) 1 1)) (w.alloc (.cells l.toArray 59)):=by
  simp only[execOp,ho,e,lI,Zfg l hl,lK,lJ]
 rw[hr];exact hK _ _ h
def Z0a(Q:Exit->Act->World->Prop)(e:Exit)(a:Act)(w:World):Prop:=e ≠ .outgrown/\Q e a w
theorem Z0a.out{Q:Exit->Act->World->Prop}:¬ LetsOut (Z0a Q):=fun ⟨_,_,h,_⟩=>h rfl
theorem Zfi{F:Fence}{n:Nat}{P:Program}{o:Oper}{a:Act}{K K':Act->World->Prop}{Q Q':Exit->Act->World->Prop}(hK:∀ a w,K a w->K' a w)(hQ:∀ e a w,Q e a w->Q' e a w):∀ r,o.uponIn F n P a K Q r->o.uponIn F n P a K' Q' r:=by
 have hL:LetsOut Q->LetsOut Q':=fun ⟨a,w,h⟩=>⟨a,w,hQ _ _ _ h⟩;intro r h
 match r with
 | .ok (.value v) w'=>exact hK _ _ h
 | .ok .skip w'=>exact hK _ _ h
 | .ok (.defer d) w'=>exact hK _ _ h
 | .ok (.enter f args) w' =>
  refine⟨h.1,h.2.mono fun e w2 h2=>?_⟩;cases e with
  | returned v=>exact hK _ _ h2
  | panicked c=>exact hQ _ _ _ h2
  | outgrown=>exact hL h2
 | .ok (.row row args) w'=>exact⟨h.1,h.2.mono fun v w2 h2=>hK _ _ h2⟩
 | .ok (.round l f tmps assign body) w' =>
  refine⟨h.1,h.2.mono fun e w2 h2=>?_⟩;cases e with
  | returned v=>exact hK _ _ h2
  | panicked c=>exact hQ _ _ _ h2
  | outgrown=>exact hL h2
 | .halt (.panic v) w'=>exact hQ _ _ _ h
theorem Z4b{F:Fence}{n:Nat}{P:Program}{ops:Array Oper}{Q Q':Exit->Act->World->Prop}(hQ:∀ e a w,Q e a w->Q' e a w):∀ (L:List Oper) (a:Act) (w:World),wpListIn F n P ops Q L a w->wpListIn F n P ops Q' L a w
 | [],_,_,h=>hQ _ _ _ h
 | o :: rest,a,w,h=>by
  unfold wpListIn at h ⊢;split at h
  ·rename_i hw;rw[if_pos hw];exact⟨h.1,Zfi (fun a w=>Z4b hQ rest a w) hQ _ h.2⟩
  ·rename_i hw;rw[if_neg hw];exact⟨h.1,Z4b hQ rest _ _ h.2⟩
theorem Zfj{n l:Nat}{P:Program}{ops:Array Oper}{Q:Exit->Act->World->Prop}{L:List Oper}{a:Act}{w:World}(hL:L.all O6=true)(h:wpList P ops (Z0a Q) L a w):wpListIn (nK.inRound l) n P ops Q L a w :=
 Z4b (fun _ _ _ h=>h.2) L a w (Z49 Z0a.out L a w hL h)
end
section
open Go.RowKit Go.Shelf
attribute [local go_sem] Oper.semAt_some
def Z8c(w:World)(s:Str)(e:Ending)(w':World):Prop :=
 Below w.heap.size w w'/\if Z09 s=true then ∃ v,e=.returned (.tuple #[v,.int .i64 0])/\Zu w' w.heap.size v (Va s) else e=.returned (.tuple #[.slice none 0 0,.int .i64 7])
theorem Z0b{A:World}{base:Nat}{T:TypeId}{sz n:Nat}{v:Value}{xs:List Value}(ho:A.ownsRow base T sz v n xs):∀ r,v.ownBlock=some r->∃ cs,Blk A r T cs:=by
 intro r e;rcases ho.2 with ⟨rfl,_⟩ | ⟨g',cap,cur,rfl,_,hg',_⟩
 ·cases e
 ·have e':g'=r:=by simpa[lW] using e
  subst e';exact⟨cur.toList,by unfold Blk;simpa using hg'⟩
theorem Blk.unique{A:World}{g:Nat}{t t':TypeId}{cs cs':List Value}(h:Blk A g t cs)(h':Blk A g t' cs'):t=t':=by
 unfold Blk at h h';rw[h] at h'
 injection h' with h'
 injection h' with _ ht
end
end
end
section
set_option maxHeartbeats 4000000
open Go.RowKit Go.Shelf
theorem Zfk{g:Operand}{ps:Array Tmp}{assign body:Code}{Q:Exit->Act->World->Prop}{a:Act}{w:World}(f:FuncId)(caps:Array Value)
  (hg:a.eval g=.func (.func f) #[] caps) (hcf:∀ args W,(callFunc f args).run lA W=.ok (.enter f args) W)
  (hcall:∀ l W1,Below w.heap.size w W1->Calls lA f (#[.func (.yield l) #[] #[]]++caps) W1 fun e W2=>e=.returned (.tuple #[])/\Below W1.heap.size W1 W2)
  (hdone:∀ (D:Nat) (W:World),w.heap.size<=D->Below w.heap.size w W->W.heap[D]?=some (.deferred (some []))->Q .normal { a with defers:={ target:=.collected D,args:=#[] } :: a.defers } W) :
  (Code.rangeFunc g ps assign body).wp lA Q a w:=by
 refine (wpIn_wide (n:=0)).1 (wpIn_rangeFunc ?_);intro fn hfn;rw[show nK.round=none from rfl];obtain⟨rec,hrec⟩:∃ rec:LoopState->Option Code->Loop,rec=fun st pe=>{ state:=st,pending:=pe,fn,tmps:=a.tmps,params:=ps,assign,body,defers:=w.heap.size }:=⟨_,rfl⟩;obtain⟨W1,hW1⟩:∃ W1,(w.alloc (.deferred (some []))).alloc (.loop (rec .ready none))=W1:=⟨_,rfl⟩;have hL1:W1.heap[w.heap.size+1]?=some (.loop (rec .ready none)):=by
  rw[<-hW1];have:=nL (w.alloc (.deferred (some []))) (.loop (rec .ready none));rwa [World.size_alloc] at this
 have hK1:W1.heap[w.heap.size]?=some (.deferred (some [])):=by
  rw[<-hW1];exact (Below.heap_alloc _ _ _ (by simp)).trans (nL w _)
 have hb1:Below w.heap.size w W1:=by rw[<-hW1];exact bL.alloc (by simp) _
 refine⟨w.heap.size+1,[{ target:=.collected w.heap.size,args:=#[] }],W1,{ target:=.fn (.func f) caps,args:=#[.func (.yield (w.heap.size+1)) #[] #[]] },W1,f,
  #[.func (.yield (w.heap.size+1)) #[] #[]]++caps,W1,?_,?_,?_,?_,fun h=>(by cases h),?_⟩
 ·rw[<-hW1,hrec];exact run_enterLoop_outer _ _ _ _ _
 ·simp only[resolve,hg];simp[go_sem]
 ·exact fun _ _=>trivial
 ·simp only[invoke];exact hcf _ _
 ·refine (callsIn_wide.2 (hcall _ W1 hb1)).mono ?_;rintro e W2 ⟨rfl,hb2⟩;have b1:=(l2.1 hL1).1;have b2:=(l2.1 hK1).1;have hl:W2.heap[w.heap.size+1]?=some (.loop (rec .ready none)):=(hb2.block _ b1).trans hL1;have hk:W2.heap[w.heap.size]?=some (.deferred (some [])):=(hb2.block _ b2).trans hK1;have hb:Below w.heap.size w W2:=hb1.trans (hb2.mono hb1.size);refine⟨none,W2.putObj (w.heap.size+1) (.loop { rec .ready none with state:=.exhausted }),?_,?_⟩
  ·have:=run_endLoop (P:=lA) hl (by rw[hrec];simp);rw[hrec] at this ⊢;exact this
  ·exact hdone _ _ (lE _) (hb.trans ⟨rfl,rfl,rfl,by simp[World.putObj],fun k hk'=>nM (by omega)⟩) ((nM (by omega)).trans hk)
end
section
set_option maxRecDepth 100000
set_option maxHeartbeats 4000000
open Go.Lib renaming hid → iD
open Go.Proofs.Tryz
open Go.RowKit
theorem Zfl(tb:Nat)(w:World):Calls lA 169 #[.pointer (some ⟨tb,0,none⟩)] w fun e w'=>e=.returned (.func (.func 240) #[] #[.pointer (some ⟨w.heap.size,0,none⟩)])/\w'=w.alloc (.cells #[.pointer (some ⟨tb,0,none⟩)] 145):=by
 go_enter func169,ntmps169;go_wp2;go_ret;exact⟨rfl,rfl⟩
theorem Zfm(tb nb mb ab bx:Nat)(es us:List (Value × Value))(y:Value)(w:World)(h:TreeAt w tb nb mb ab 0 es us Z0)(hb:Blk w bx 145 [.pointer (some ⟨tb,0,none⟩)]) :
  Calls lA 240 #[y,.pointer (some ⟨bx,0,none⟩)] w fun e w'=>e=.returned (.tuple #[])/\Below w.heap.size w w':=by
 have hcall:=iD (Z7i Yf rfl [] tb nb mb ab 0 es us Z0 [] w h ⟨rfl,rfl⟩ (by simp));have c0:w.cell? ⟨bx,0,none⟩=some (.pointer (some ⟨tb,0,none⟩)):=hb.cell 0;clear h hb;go_enter func240,ntmps240;go_wp2_with fail;refine hcall.out.mono ?_;rintro e w2 ⟨V,rfl,ho,hb⟩;obtain⟨LA,lc,rfl,_,_⟩:=Za ho;clear ho;go_wp2_with fail;go_rounds 1;exact lX (v:=.tuple #[]) (lY (by rfl) _ _ _) rfl ⟨rfl,hb⟩
theorem Zfn(t:Str)(ht:t.length<=1000)(h0:t ≠ [])(tb nb mb ab:Nat)(w:World)(h:TreeAt w tb nb mb ab 0 [] [] Z0) :
  Calls lA 172 #[.pointer (some ⟨tb,0,none⟩),Z1 t] w fun e w'=>∃ V,e=.returned (.tuple #[V,.int .i64 0])/\w'.ownsRow w.heap.size 278 37 V t.length (Yg (chain t))/\Below w.heap.size w w':=by
 have hcp:=iD (Zdu tb nb mb ab [] w h);have htx:=iD (fun W (hb:Below w.heap.size w W)=>Z7j Yf rfl [] tb nb mb ab 0 [] [] Z0 [] W (h.below hb) ⟨rfl,rfl⟩ (by simp));have hmk:=iD (fun W=>Zfa t ht h0 W);unfold Z1 at hmk htx ⊢;replace h:=iD h;refine Z24 func172 rfl ?_;simp only[ntmps172,List.size_toArray,lP,List.length_nil,Nat.reduceAdd,Nat.reduceSub,Array.replicate_succ,Array.replicate_zero,List.push_toArray,List.append_toArray,List.nil_append,nC];go_wp2_with fail;refine hcp.out.mono ?_;rintro e w1 ⟨cb,rfl,hb1⟩;replace hb1:=iD hb1;go_wp2_with fail;refine (htx.out _ hb1.out).mono ?_;rintro e w2 ⟨rfl,hb2⟩;have hb2':=iD (hb1.out.trans (hb2.mono hb1.out.size));clear hb2;go_wp2_with fail;refine (hmk.out _).mono ?_;rintro e w3 ⟨eb,cap,rest,rfl,hel,hE,hb3⟩;have hb3':=iD (hb2'.out.trans (hb3.mono hb2'.out.size));clear hb3;replace hE:=iD hE;go_wp2_with fail;generalize hW4:lD (lD w3 _) (lF _ 356)=w4;have hb4:Below w3.heap.size w3 w4:=by rw[<-hW4];exact bL.alloc (by simp) _
 have hD:Blk w4 w3.heap.size 353 [.nilFunc,.func (.func 244) #[] #[],.func (.func 245) #[] #[],.func (.func 246) #[] #[]]:=by rw[<-hW4];exact Blk.alloc (Blk.new_at (cs:=[_,_,_,_]) rfl) _
 have hM:Blk w4 (w3.heap.size+1) 356 (G6 tb Z0):=by rw[<-hW4];exact Blk.new_at (cs:=G6 tb Z0) (by simp)
 have hE4:=hE.out.below hb4 hE.out.lt;have hb4':=iD (hb3'.out.trans (hb4.mono hb3'.out.size));clear hW4;replace hE:=iD hE4;clear hE4;replace hD:=iD hD;replace hM:=iD hM;replace hb4:=iD hb4;refine (Zfl tb _).mono ?_;rintro e w5 ⟨rfl,rfl⟩;go_wp2_with fail;have hT4:Hid (∀ W,Below (w4.alloc (.cells #[.pointer (some ⟨tb,0,none⟩)] 145)).heap.size (w4.alloc (.cells #[.pointer (some ⟨tb,0,none⟩)] 145)) W->TreeAt W tb nb mb ab 0 [] [] Z0/\Blk W w4.heap.size 145 [.pointer (some ⟨tb,0,none⟩)]):=iD (fun W hb=>by
  have h1:=(lN w4.heap.size w4).alloc (lE _) (.cells #[.pointer (some ⟨tb,0,none⟩)] 145);have hs:=hb4'.out.size;exact⟨h.out.below (hb4'.out.trans ((h1.trans (hb.mono h1.size)).mono hs)),(Blk.new_at (cs:=[.pointer (some ⟨tb,0,none⟩)]) rfl).below hb (by simp)⟩)
 refine Zfk 240 #[.pointer (some ⟨w4.heap.size,0,none⟩)] rfl (fun args W=>by simp[go_sem]) (fun l W1 hb=>Zfm tb nb mb ab w4.heap.size [] [] _ W1 (hT4.out W1 hb).1 (hT4.out W1 hb).2) ?_;intro D W hDl hbW hDD;have h54:=(lN w4.heap.size w4).alloc (lE _) (.cells #[.pointer (some ⟨tb,0,none⟩)] 145);have hbW4:Below w4.heap.size w4 W:=h54.trans (hbW.mono h54.size);have hEW:=hE.out.below hbW4 hE.out.lt;have hDW:=hD.out.below hbW4 hD.out.lt;have hMW:=hM.out.below hbW4 hM.out.lt;have hTW:=(hT4.out W hbW).1;have hbWw:=hb4'.out.trans (hbW4.mono hb4'.out.size);have hDlw:=(l2.1 hDD).1;have e0:W.cell? ⟨eb,0,none⟩=some (.int .i64 3):=hEW.cell 0;have e1:W.cell? ⟨eb,1,none⟩=some (.int .i64 0):=hEW.cell 1;have e2:W.cell? ⟨eb,2,none⟩=some (.string ⟨t.toArray⟩):=hEW.cell 2;replace hEW:=iD hEW;replace hDW:=iD hDW;replace hMW:=iD hMW;replace hTW:=iD hTW;replace hbWw:=iD hbWw;replace hbW4:=iD hbW4;replace hDD:=iD hDD;clear hT4 h54 hbW;dsimp only;go_wp2_with fail;refine lL 2 ?_;rw[lG];go_wp2_with fail;generalize hW6:lD W (lF _ 247)=w6;have hb6:Below W.heap.size W w6:=by rw[<-hW6];exact bL
 have hX:Blk w6 W.heap.size 247 [.int .i64 3,.int .i64 0,.string ⟨t.toArray⟩]:=by rw[<-hW6];exact Blk.new_at (cs:=[_,_,_]) rfl
 have hD6:=hDW.out.below hb6 hDW.out.lt;have hM6:=hMW.out.below hb6 hMW.out.lt;have hT6:=hTW.out.below hb6;have hDD6:=iD ((hb6.block D hDlw).trans hDD.out);have x0:w6.cell? ⟨W.heap.size,0,none⟩=some (.int .i64 3):=hX.cell 0;have x1:w6.cell? ⟨W.heap.size,1,none⟩=some (.int .i64 0):=hX.cell 1;have x2:w6.cell? ⟨W.heap.size,2,none⟩=some (.string ⟨t.toArray⟩):=hX.cell 2;have x3:w6.cell? ⟨w3.heap.size,3,none⟩=some (.func (.func 246) #[] #[]):=hD6.cell 3;have hb6':=iD (hbWw.out.trans (hb6.mono hbWw.out.size));have hput:=iD (fun n=>Zf4 t ht tb nb mb ab (w3.heap.size+1) [] [] (w6.drewN n) (hT6.below ((Touch.drewN (L:=[]) n).below (lE _) (fun _ hi=>by cases hi))) (hM6.drewN n));unfold Z1 at hput;have hMD:w3.heap.size+1 ≠ D:=by
  have h1:=hM.out.lt;have h2:=hDl;simp at h2;omega
 have hDl6:D<w6.heap.size:=nH hDlw hb6.size;have hws:=hb3'.out.size;clear hW6;refine Y7 5 (by kernel_rfl) (by kernel_rfl) ?_;simp only[l5,l6,l7,l8];repeat (first | go_big_quiet_step (fail))
 refine lR ?_;rintro _ ⟨nq,rfl⟩;go_wp2_with fail;refine (hput.out nq).mono ?_;rintro e w7 ⟨rfl,V,hM7,hO7,ht7⟩;have m4:w7.cell? ⟨w3.heap.size+1,4,none⟩=some V:=hM7.cell 4;have hD7:=iD (show w7.heap[D]?=some (.deferred (some [])) from (ht7.block D (by simpa using hDl6) (by simp;omega)).trans hDD6.out);replace hM7:=iD hM7;replace hO7:=iD hO7;replace ht7:=iD ht7;obtain⟨OA,oc,rfl,_,_⟩:=Za hO7.out;go_wp2_with fail;rw[lG];go_wp2_with fail;have hgr:=grownBy_putObj' w7 D (.deferred none);have hs6:=hb6'.out.size;have hDw:w.heap.size<=D:=by
  have h1:=hDl;have h2:=hb4'.out.size;simp at h1;omega
 have t7:Below w.heap.size w w7:=(hb6'.out.trans ((Touch.drewN (L:=[]) nq).below (by omega) (fun _ hi=>by cases hi))).trans (ht7.out.below (by simpa using hs6) (fun i hi=>by
  have : i=w3.heap.size+1:=by simpa using hi
  omega))
 have hne:D ∉ (nE OA t.length oc).ownBlock.toList:=fun hm=>by
  have e:=nN.1 hm;have h1:=(hO7.out.lt D e).1;simp at h1;omega
 refine Z25 hD7.out _ (results_tmp2 rfl _ _ _) ⟨_,rfl,J1 (base:=(w6.drewN nq).heap.size) (by simpa using hs6) (Zj hO7.out (Touch.grown (L:=[D]) hgr (fun b e=>by cases e;simp)) (fun b e hm=>?_)),t7.grown hgr (lV hs6 (by simpa using ht7.out.size)) (fun k e=>by cases e;exact hDw)⟩;obtain rfl:b=D:=by simpa using hm
 exact hne (nN.2 e)
end
section
open Go.RowKit
theorem Kb{P:Program}{w:World}{o:Oper}{a:Act}(t:TypeId)(x k:Operand)(c:Bool)(ho:o.op=.lookup t x k c)(M K r:Value)(hx:a.eval x=M)(hk:a.eval k=K)(h:(Instr.lookup t M K c).run P w=.ok r w):(execOp a.eval o).run P w=.ok (.value r) w:=by
 simp only[execOp,ho,hx,hk,lI,h,lK,lJ]
theorem Oa{P:Program}{w w':World}{o:Oper}{a:Act}(t:TypeId)(m k x:Operand)(ho:o.op=.mapUpdate t m k x)(M K X:Value)(hm:a.eval m=M)(hk:a.eval k=K)(hx:a.eval x=X)(h:(Instr.mapUpdate t M K X).run P w=.ok () w'):(execOp a.eval o).run P w=.ok .skip w':=by
 simp only[execOp,ho,hm,hk,hx,lI,h,lK,lJ]
theorem Ob{P:Program}{ops:Array Oper}{rest:List Oper}{o:Oper}{a:Act}{w w':World}{Q:Exit->Act->World->Prop}(hgd:o.guard=none)
  (hrun:(execOp a.eval o).run P w=.ok .skip w') (h:wpList P ops Q rest (a.put o.dst undef) w'):wpList P ops Q (o :: rest) a w:=by
 refine l1 hgd fun _ hK=>?_;unfold lH;rw[hrun];exact hK _ _ h
theorem J5{P:Program}{ops:Array Oper}{rest:List Oper}{o:Oper}{a:Act}{w w':World}{Q:Exit->Act->World->Prop}(hgd:o.guard=none)(v:Value)
  (hrun:(execOp a.eval o).run P w=.ok (.value v) w') (h:wpList P ops Q rest (a.put o.dst v) w'):wpList P ops Q (o :: rest) a w:=by
 refine l1 hgd fun _ hK=>?_;unfold lH;rw[hrun];exact hK _ _ h
theorem Z8x(w:World){o:Oper}{a:Act}{x y:Operand}{yt:TypeId}(ho:o.op=.binOp .neq 261 x y yt)(r s:PRef)(hxe:a.eval x=Y8 r)(hye:a.eval y=Y8 s)(hr:r.com.length=32)(hs:s.com.length=32) :
  (execOp a.eval o).run lA w=.ok (.value (.bool (!(r.own == s.own && (r.com == s.com && r.n == s.n))))) w:=by
 have h1:(eqGuard .neq 261 x y (Y8 r) (Y8 s)).run lA w=.ok () w:=run_eqGuard_agg (P:=lA) w .neq 261 x y _ _ Tryz.eqGuardType261;have h2:(binOp .neq 261 (Y8 r) (Y8 s)).run lA w=.ok (.bool (!(r.own == s.own && (r.com == s.com && r.n == s.n)))) w:=by
  have h:=Z3o w r s hr hs;unfold Y8 at h ⊢;rw[run_neq_struct,h];rfl
 simp only[execOp,ho,hxe,hye,lI,h1,lK,h2,lJ]
end
end Go.Proofs.YtefjlobdifjogaaGreatDoor
