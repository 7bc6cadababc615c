import Derived.Test.YtfdimggmljkkbaaGreatDoorP09
open Go.Instr renaming build → lB
open Go.Proofs.Tryz renaming prog → lA
open List renaming length_cons → lC, length_eq_zero_iff → lD
namespace Go.Proofs.YtfdimggmljkkbaaGreatDoor
section
set_option maxRecDepth 100000
set_option maxHeartbeats 4000000
open Go.Lib renaming hid → iD
open Go.Proofs.Tryz
open Go.RowKit
theorem Z5w(d:Str)(n:Int)(hd:d.length=32)(w:World):(lB 158 #[(1,.agg (d.map B).toArray),(2,.int .i64 n)]).run lA w=.ok (.agg (Z1 ⟨false,d,n⟩).toArray) w:=by
 iterate 32 (rcases d with _ | ⟨_,d⟩;· (exfalso;simp at hd;done))
 obtain rfl:d=[]:=by
  simp only[lC] at hd;exact lD.1 (by omega)
 kernel_rfl
theorem exec_build2{P:Program}{w:World}{o:Oper}{a:Act}(t:TypeId)(i0 i1:Nat)(x0 x1:Operand)(ho:o.op=.build t #[(i0,x0),(i1,x1)])(V0 V1 r:Value)(h0:a.eval x0=V0)(h1:a.eval x1=V1)
  (h:(lB t #[(i0,V0),(i1,V1)]).run P w=.ok r w):(execOp a.eval o).run P w=.ok (.value r) w:=by
 simp only[execOp,ho,List.map_toArray,List.map_cons,List.map_nil,h0,h1,Sem.run_bind,h,Result.andThen_ok,Sem.run_pure]
abbrev Jl(nb mb ab:Nat)(seen:Int):List Value:=[.pointer (some ⟨nb,0,none⟩),.map (some mb),.map (some ab),.int .i64 seen]
theorem Zj4(tb nb mb ab:Nat)(seen:Int)(id:Str)(w:World)(hT:Blk w tb 245 (Jl nb mb ab seen)) :
  Calls lA 157 #[.pointer (some ⟨tb,0,none⟩),.agg (id.map B).toArray,Zl Z8] w fun e w'=>e=.returned (.pointer (some ⟨nb,0,none⟩))/\Below w.heap.size w w':=by
 unfold Zl;generalize hW1:((w.alloc (.cells (id.map B).toArray 47)).alloc (.cells (Z1 Z8).toArray 158))=w1;have hb1:Below w.heap.size w w1:=by rw[<-hW1];exact bL.alloc (by simp) _
 have hR:Blk w1 (w.heap.size+1) 158 (Z1 Z8):=by rw[<-hW1];exact Blk.new_at (cs:=Z1 Z8) (by simp)
 have hT1:=hT.below hb1 hT.lt;have c0:w1.cell? ⟨tb,0,none⟩=some (.pointer (some ⟨nb,0,none⟩)):=hT1.cell 0;have r0:w1.cell? ⟨w.heap.size+1,0,none⟩=some (.bool false):=hR.cell 0;replace hR:=iD hR;replace hb1:=iD hb1;clear hT hT1;go_enter func157,ntmps157;go_wp2_with (first
  | (refine Y0 rfl 158 (.tmp 5) rfl (w.heap.size+1) rfl 158 (Z1 Z8) hR.out _ underlying158 rfl (Xe rfl) ?_)
  | (refine Z2s rfl (.tmp 13) (.tmp 14) _ rfl Z8 Z8 rfl rfl rfl rfl ?_;rw[show (Z8.own == Z8.own && (Z8.com == Z8.com && Z8.n == Z8.n))=true by decide];go_frame)
  | fail)
 go_ret;exact⟨rfl,hb1.out⟩
theorem Zj5(tb nb mb ab:Nat)(seen:Int)(es:List (Value × Value))(id:Str)(hid:id.length=32)(k p:Nat)(w:World)(hT:Blk w tb 245 (Jl nb mb ab seen))(hM:Zg w mb es)(hk:∀ q ∈ es,Uh q.1)
  (hm:(Zl ⟨false,id,((k+1:Nat):Int)⟩,Value.pointer (some ⟨p,0,none⟩)) ∈ es) (hu:∀ q ∈ es,q.1=Zl ⟨false,id,((k+1:Nat):Int)⟩->q.2=.pointer (some ⟨p,0,none⟩)) (hkb:k<=100000) :
  Calls lA 157 #[.pointer (some ⟨tb,0,none⟩),.agg (id.map B).toArray,Zl (Js (k+1))] w fun e w'=>e=.returned (.pointer (some ⟨p,0,none⟩))/\Below w.heap.size w w':=by
 unfold Zl;generalize hW1:((w.alloc (.cells (id.map B).toArray 47)).alloc (.cells (Z1 (Js (k+1))).toArray 158))=w1;have hb1:Below w.heap.size w w1:=by rw[<-hW1];exact bL.alloc (by simp) _
 have hI:Blk w1 w.heap.size 47 (id.map B):=by rw[<-hW1];exact (Blk.new_at (cs:=id.map B) rfl).alloc _
 have hR:Blk w1 (w.heap.size+1) 158 (Z1 (Js (k+1))):=by rw[<-hW1];exact Blk.new_at (cs:=Z1 (Js (k+1))) (by simp)
 have hT1:=hT.below hb1 hT.lt;have hM1:=hM.below hb1 hM.lt;have r0:w1.cell? ⟨w.heap.size+1,0,none⟩=some (.bool true):=hR.cell 0;have r33:w1.cell? ⟨w.heap.size+1,33,none⟩=some (.int .i64 ((k+1:Nat):Int)):=hR.cell 33;obtain⟨r,hr⟩:∃ r:PRef,r=⟨false,id,((k+1:Nat):Int)⟩:=⟨_,rfl⟩;have hrc:r.com.length=32:=by rw[hr];exact hid
 have hbr:(r.own == Z8.own && (r.com == Z8.com && r.n == Z8.n))=false:=by
  have : (r.n == Z8.n)=false:=by rw[hr];simp[Z8];omega
  rw[this];simp
 rw[<-hr] at hm hu;have hrun:∀ w',(∃ n,w'=(w1.setRow (w.heap.size+1) (Z1 r).toArray).drewN n)->(Instr.lookup 243 (.map (some mb)) (Zl r) false).run lA w'=.ok (.pointer (some ⟨p,0,none⟩)) w':=by
  rintro _ ⟨n,rfl⟩;have hM2:Zg ((w1.setRow (w.heap.size+1) (Z1 r).toArray).drewN n) mb es:=hM1.block (setRow_other _ _ _ _ (by have:=hM.lt;omega));exact hM2.look_some Z04 underlying243 hk ⟨r,hrc,rfl⟩ hm hu false
 have hT2:=hT1.setRow_far (g':=w.heap.size+1) (by have:=hT.lt;omega) (Z1 r).toArray;have c1:(w1.setRow (w.heap.size+1) (Z1 r).toArray).cell? ⟨tb,1,none⟩=some (.map (some mb)):=hT2.cell 1;have hR2:=iD (hR.setRow_same (Z1 r));have hb2:=iD (below_setRow hb1 (Nat.le_succ w.heap.size) (Z1 r).toArray);replace hR:=iD hR;replace hI:=iD hI;replace hr:=iD hr;replace hrun:=iD hrun;clear hT hT1 hM hM1 hm hu hk hT2 hb1;go_enter func157,ntmps157;go_wp2_with (first
  | (refine Y0 rfl 47 (.tmp 4) rfl w.heap.size rfl 47 (id.map B) hI.out _ underlying47 rfl (Za hid) ?_)
  | (refine Ke rfl (.agg (Z1 r).toArray) (exec_build2 158 1 2 (.tmp 9) (.tmp 11) rfl (.agg (id.map B).toArray) (.int .i64 ((k+1:Nat):Int)) _ rfl rfl (by rw[hr.out];exact Z5w id _ hid _)) ?_)
  | (refine Zo rfl 158 (.tmp 5) (.tmp 12) rfl (w.heap.size+1) (Z1 r) rfl rfl 158 (Z1 (Js (k+1))) hR.out (by simp[Z1,hrc,Js,X2]) (Xe hrc) (Z9u _) ?_)
  | (refine Y0 rfl 158 (.tmp 5) rfl (w.heap.size+1) rfl 158 (Z1 r) hR2.out _ underlying158 rfl (Xe hrc) ?_)
  | (refine Z2s rfl (.tmp 13) (.tmp 14) _ rfl r Z8 rfl rfl hrc rfl ?_;rw[hbr];go_frame)
  | fail)
 have hrun':=hrun.out;have hR2':=hR2.out;have hb2':=hb2.out;generalize (w1.setRow (w.heap.size+1) (Z1 r).toArray)=w2 at c1 hrun' hR2' hb2' ⊢;have hR3:Hid (∀ w',(∃ n,w'=w2.drewN n)->Blk w' (w.heap.size+1) 158 (Z1 r)):=iD (by rintro _ ⟨n,rfl⟩;exact hR2'.drewN n);replace hrun':=iD hrun';replace hb2':=iD hb2';clear hrun hR2 hb2 r0 r33 hR2';refine wp_region_quiet_lit (by kernel_rfl) (by kernel_rfl) ?_;repeat (first
  | go_big_quiet_step (fail)
  | (refine Yf 158 (.tmp 5) rfl rfl (w.heap.size+1) 0 rfl 158 (Z1 r) (Z1 r) [] hR3.out (by simp) _ underlying158 rfl (Xe hrc) ?_;go_frame)
  | (refine Yp (.lookup 243 (.tmp 23) (.tmp 24) false) rfl rfl (.pointer (some ⟨p,0,none⟩)) (fun w' hw'=>Jk 243 (.tmp 23) (.tmp 24) false rfl _ _ _ rfl rfl (hrun'.out w' hw')) ?_;go_frame))
 refine wpQuiet_nil ?_;rintro _ ⟨nq,rfl⟩;go_wp2_with fail;go_ret;exact⟨rfl,hb2'.out.trans ((Touch.drewN (L:=[]) nq).below hb2'.out.size (fun _ hi=>by cases hi))⟩
end
section

end
section
open Go.Proofs.Tryz
open Go.RowKit
open Go.Maps Go.MapKept Go.ChangeMaps
theorem Zj6(x f:Value)(w:World):Calls lA 158 #[Z2,x,f] w fun e w'=>e=.returned (.tuple #[.int .i64 0,.bool false])/\w'=w:=by
 go_enter func158,ntmps158;go_wp2_with fail;refine wp_loop_rounds 1 ?_;rw[rounds_succ];go_wp2_with fail;go_returns;exact⟨rfl,rfl⟩
theorem Zaf(r:PRef)(c:UInt8)(hr:r.com.length=32)(w:World):(lB 235 #[(0,.agg (Z1 r).toArray),(1,B c)]).run lA w=.ok (.agg (Zf r c false Z2 Z2).toArray) w:=by
 obtain⟨o,d,n⟩:=r;dsimp only at hr
 iterate 32 (rcases d with _ | ⟨_,d⟩;· (exfalso;simp at hr;done))
 obtain rfl:d=[]:=by
  simp only[lC] at hr;exact lD.1 (by omega)
 kernel_rfl
theorem V9{w w':World}{b:Nat}(h:w.mapTurned w' b):Touch [b] w w':=by
 obtain⟨es,ck,es',ck',hb,rfl⟩:=h;refine⟨rfl,rfl,rfl,by simp[setBlock],fun i hi hn=>?_⟩;have : b ≠ i:=fun e=>hn (by simp[e]);simp[setBlock,this]
theorem Zg.touch{L:List Nat}{w w':World}{b:Nat}{es:List (Value × Value)}(h:Zg w b es)(ht:Touch L w w')(hn:b ∉ L):Zg w' b es:=h.block (ht.block _ h.lt hn)
theorem Zg.ne_blk{w:World}{b g:Nat}{es:List (Value × Value)}{t:TypeId}{cs:List Value}(h:Zg w b es)(hB:Blk w g t cs):g ≠ b:=fun e=>by
 obtain⟨xs,c,h1,_⟩:=h;rw[e] at hB;have:=hB.symm.trans h1
 injection this with this
 cases this
theorem Jm(d:Str)(h:d.length=32):Ga (.agg (d.map B).toArray):=⟨d,h,rfl⟩
end
section

end
section
open Go.RowKit
def Yq(id:Str)(p:Value):List Value:=id.map B++[p]
def Z0e:List Value:=Yq X2 Z2
theorem Zj7:InfoOf lA 94 (.agg Z0e.toArray) 33 56:=⟨by kernel_rfl,rfl,by omega⟩
theorem Z5x:InfoOf lA 47 (.agg Z3.toArray) 32 32:=⟨by kernel_rfl,rfl,by omega⟩
end
section

end
end Go.Proofs.YtfdimggmljkkbaaGreatDoor
