import Derived.Test.YtfdimggmljkkbaaGreatDoorP05
import Derived.Test.YtfdimggmljkkbaaGreatDoorP06
import Derived.Test.YtfdimggmljkkbaaGreatDoorP03
import Derived.Deep.DeepCutAuto
import Derived.Deep.OwnRows
import Derived.Lib.IndexLaws
import Derived.RangeFuncNested
import Derived.RangeFuncBound
import Derived.RangeFuncCalls
import Derived.RangeFuncLeaves
import Derived.Shelf.RegionOpen
import Derived.OwnWalkIn
import Derived.TacticsInMore
import Derived.LoopNIn
import Derived.LoopIn
import Derived.RangeFuncMany
import Derived.RangeFuncKeeps
open Bool renaming and_eq_true → lW
open Go renaming wpList_plain → lK
open Go.Fence renaming wide → lX
open Go.Instr renaming buildSlice → lI, build → lS
open Go.Oper renaming wp → lE
open Go.Proofs.Tryz renaming prog → lC
open Go.Region renaming wanted → lD
open Go.Result renaming andThen_ok → lH
open Go.Sem renaming run_bind → lF, run_pure → lG
open Go.Value renaming ownBlock → lJ
open List renaming exists_cons_of_length_eq_add_one → lA, mem_cons → lL, mem_append → lM, mem_map → lN, not_mem_nil → lO, map_toArray → lP, map_cons → lQ, map_nil → lR, length_cons → lT, length_eq_zero_iff → lU
open Nat renaming le_trans → lV
open Nat.succ renaming inj → lB
namespace Go.Proofs.YtfdimggmljkkbaaGreatDoor
section
open Go.RowKit
def Jt:List Value:=Z9 ⟨0,false,⟨false,X2,0⟩,0⟩
theorem Uj(x:POp):∀ v ∈ Z9 x,v.oneCell'=true:=by
 intro v hv;simp only[Z9,Z1,lL,lM,lN,lO,or_false] at hv;rcases hv with rfl | rfl | (rfl | ⟨_,_,rfl⟩ | rfl) | rfl <;> rfl
theorem Z52{P:Program}{ops:Array Oper}{rest:List Oper}{op:Oper}{a:Act}{w:World}{Q:Exit->Act->World->Prop}(hw:lD op (yielded ops a.tmps)=true)(ty:TypeId)(x:Operand)(ho:op.op=.load ty x)
  (g o:Nat) (hx:a.eval x=.pointer (some ⟨g,o,none⟩)) (t:TypeId) (cs part r:List Value) (hg:Blk w g t cs) (hp:cs.drop o=part++r) (d:TypeDesc)
  (hu:P.underlying ty=some d) (hd:d.isRow=true) (hi:(P.info? ty).map (·.size)=some part.length)
  (h:wpList P ops Q rest (a.put op.dst (.agg part.toArray)) w):wpList P ops Q (op :: rest) a w :=
 Z8o hw fun _ hK=>wp_load_mid ty x ho g o hx part d (fun j v hv=>by have:=U9 hg o part r hp j v hv;rwa [Xj] at this) hu hd hi (hK _ _ h)
theorem Jj{w:World}{g:Nat}{x:POp}(h:Blk w g 178 (Z9 x))(hx:OpFit x):w.cell? ⟨g,0,none⟩=some (.int .i64 x.kind)/\w.cell? ⟨g,1,none⟩=some (.bool x.left)/\w.cell? ⟨g,2,none⟩=some (.bool x.at_.own)/\w.cell? ⟨g,35,none⟩=some (.int .i64 x.at_.n)/\w.cell? ⟨g,36,none⟩=some (B x.byte):=by
 simp only[h.cell];refine⟨rfl,rfl,rfl,?_,?_⟩ <;> simp[Z9,Z1,hx.com]
theorem Xe{r:PRef}(hr:r.com.length=32):(lC.info? 158).map (·.size)=some (Z1 r).length:=by
 have e:(Z1 r).length=34:=by simp[Z1,hr]
 have e2:(lC.info? 158).map (·.size)=some 34:=by kernel_rfl
 rw[e2,e]
theorem Qh{x:POp}(h:OpFit x):(lC.info? 178).map (·.size)=some (Z9 x).length:=by
 have e2:(lC.info? 178).map (·.size)=some 37:=by kernel_rfl
 rw[e2,Ug h]
end
section
open Go.RowKit
theorem Z1g{P:Program}(w:World){ops:Array Oper}{op:Oper}{a:Act}{K:Act->World->Prop}{Q:Exit->Act->World->Prop}{E:Prop}(hgd:op.guard=none)(ty:TypeId)(x y:Operand)(ho:op.op=.store ty x y)
  (g:Nat) (cells:List Value) (hx:a.eval x=.pointer (some ⟨g,0,none⟩)) (hy:a.eval y=.agg cells.toArray) (t:TypeId) (old:List Value) (hg:Blk w g t old) (hl:old.length=cells.length)
  (hi:(P.info? ty).map (·.size)=some cells.length) (h1:∀ v ∈ cells,v.oneCell'=true) (h:K (a.put op.dst undef) (w.setRow g cells.toArray)) :
  if lD op (yielded ops a.tmps)=true then lE P op a w K Q else E:=by
 have hw:lD op (yielded ops a.tmps)=true:=by simp[lD,hgd]
 rw[if_pos hw];unfold lE execOp;simp only[ho,hx,hy,Instr.storeAt,Instr.sureAddr,lF,lG,lH,
  run_storeVar_row (P:=P) w g t ty old.toArray cells.toArray hg (by simpa using hi) (by simpa using hl) (all_oneCell_toArray h1)]
 exact h
theorem Z07{P:Program}(w w':World){ops:Array Oper}{o:Oper}{a:Act}{K:Act->World->Prop}{Q:Exit->Act->World->Prop}{E:Prop}(hgd:o.guard=none)(v:Value)
  (hrun:(execOp a.eval o).run P w=.ok (.value v) w') (h:K (a.put o.dst v) w'):if lD o (yielded ops a.tmps)=true then lE P o a w K Q else E:=by
 have hw:lD o (yielded ops a.tmps)=true:=by simp[lD,hgd]
 rw[if_pos hw];unfold lE;rw[hrun];exact h
theorem Uk{P:Program}{w w':World}{o:Oper}{a:Act}(t:TypeId)(x:Operand)(ho:o.op=.buildSlice t 1 #[(0,x)])(V r:Value)(hx:a.eval x=V)(h:(lI t 1 #[(0,V)]).run P w=.ok r w'):(execOp a.eval o).run P w=.ok (.value r) w':=by
 simp only[execOp,ho,lP,lQ,lR,hx,lF,h,lH,lG]
theorem Zhf{P:Program}{w:World}{o:Oper}{a:Act}(t:TypeId)(i0 i1 i2 i3:Nat)(x0 x1 x2 x3:Operand)(ho:o.op=.build t #[(i0,x0),(i1,x1),(i2,x2),(i3,x3)])(V0 V1 V2 V3 r:Value)(h0:a.eval x0=V0)(h1:a.eval x1=V1)(h2:a.eval x2=V2)(h3:a.eval x3=V3)
  (h:(lS t #[(i0,V0),(i1,V1),(i2,V2),(i3,V3)]).run P w=.ok r w):(execOp a.eval o).run P w=.ok (.value r) w:=by
 simp only[execOp,ho,lP,lQ,lR,h0,h1,h2,h3,lF,h,lH,lG]
end
section
open Go.RowKit
theorem Z9u(r:PRef):∀ v ∈ Z1 r,v.oneCell'=true:=by
 intro v hv;simp only[Z1,lL,lM,lN,lO,or_false] at hv;rcases hv with rfl | ⟨_,_,rfl⟩ | rfl <;> rfl
theorem Zp5(r:PRef)(c:UInt8)(hr:r.com.length=32)(w:World):(lS 178 #[(0,.int .i64 1),(1,.bool false),(2,.agg (Z1 r).toArray),(3,B c)]).run lC w=.ok (.agg (Z9 ⟨1,false,r,c⟩).toArray) w:=by
 obtain⟨o,d,n⟩:=r;dsimp only at hr
 iterate 32 (rcases d with _ | ⟨_,d⟩;· (exfalso;simp at hr;done))
 obtain rfl:d=[]:=by
  simp only[lT] at hr;exact lU.1 (by omega)
 kernel_rfl
theorem Z9v(x:POp)(hr:x.at_.com.length=32)(w:World):(lI 80 1 #[(0,.agg (Z9 x).toArray)]).run lC w=.ok (.slice (some ⟨w.heap.size,0,none⟩) 1 1) (w.alloc (.cells (Z9 x).toArray 178)):=by
 obtain⟨k,l,⟨o,d,n⟩,c⟩:=x;dsimp only at hr
 iterate 32 (rcases d with _ | ⟨_,d⟩;· (exfalso;simp at hr;done))
 obtain rfl:d=[]:=by
  simp only[lT] at hr;exact lU.1 (by omega)
 kernel_rfl
theorem Z5j:InfoOf lC 178 (.agg (Z9 ⟨0,false,Z8,0⟩).toArray) 37 72:=⟨by kernel_rfl,rfl,by omega⟩
theorem Touch.under{L:List Nat}{w w1 w2:World}(h:Touch L w w1)(hb:Below w.heap.size w1 w2):Touch L w w2 :=
 ⟨hb.os.trans h.os,hb.tape.trans h.tape,hb.output.trans h.output,lV h.size hb.size,fun i hi hn=>(hb.block i hi).trans (h.block i hi hn)⟩
theorem Touch.setRow{L:List Nat}{w:World}{g:Nat}(hg:g ∈ L)(c:Array Value):Touch L w (w.setRow g c):=Touch.grown (Z33 c) (fun b hb=>by cases hb;exact hg)
theorem Z9w(a b:List POp):X5 (a++b)=X5 a++X5 b:=List.flatMap_append
theorem J7{w:World}{base n k g:Nat}{e t:TypeId}{v:Value}{xs cs:List Value}(h:w.ownsRow base e k v n xs)(hB:Blk w g t cs)(hne:t ≠ e):some g ≠ v.ownBlock:=fun he=>by
 rcases h.2 with ⟨rfl,_⟩ | ⟨g',cap,cur,rfl,_,hg,_⟩
 ·cases he
 ·have e':g=g':=by
   simp[lJ] at he;exact he
  subst e';have h1:=hB.symm.trans hg
  injection h1 with h1
  injection h1 with _ h2
  exact hne h2
theorem Oh{w:World}{base base':Nat}{e:TypeId}{n k:Nat}{v:Value}{xs:List Value}(hb:base'<=base)(h:w.ownsRow base e k v n xs):w.ownsRow base' e k v n xs:=by
 rcases h with ⟨h1,⟨h2,h3⟩ | ⟨g,cap,cur,h2,h3,h4⟩⟩
 ·exact⟨h1,.inl ⟨h2,h3⟩⟩
 ·exact⟨h1,.inr ⟨g,cap,cur,h2,lV hb h3,h4⟩⟩
end
section
open Go.RowKit
def Z08(k n:Int)(s:Str):List Value:=[.int .i64 k,.int .i64 n,Z0 s]
theorem Zhg:InfoOf lC 144 (.agg #[.int .i64 0,.int .i64 0,.string ⟨#[]⟩]) 3 32:=⟨by kernel_rfl,rfl,by omega⟩
end
section
set_option maxRecDepth 100000
set_option maxHeartbeats 4000000
section
section
def Z1i:Str->List Str
 | []=>[[]]
 | c :: r=>if c=32 then [] :: Z1i r else match Z1i r with | []=>[[c]] | l :: ls=>(c :: l) :: ls
def Z36:Str->List Str
 | []=>[]
 | c :: r=>if c=10 then [10] :: Z36 r else match Z36 r with | []=>[[c]] | l :: ls=>(c :: l) :: ls
end
section
open Go.RowKit
end
end
section
section
open Go.RowKit Go.Shelf
attribute [local go_sem] Oper.semAt_some
end
section
open Go.RowKit Go.Shelf
def Z5k(o:Oper):Bool:=match o.op with | .defer _=>false | _=>true
theorem Zhh{n:Nat}{P:Program}{o:Oper}{a:Act}{K:Act->World->Prop}{Q:Exit->Act->World->Prop}(l:Nat):∀ r,o.upon P a K Q r->o.uponIn (lX.inRound l) n P a K Q r:=by
 intro r h;have hd:(lX.inRound l).depth.isSome=true->1<=n:=fun h=>by cases h
 match r with
 | .ok (.value v) w'=>exact h
 | .ok .skip w'=>exact h
 | .ok (.defer d) w'=>exact h
 | .ok (.enter f args) w'=>exact⟨hd,callsIn_wide.2 h⟩
 | .ok (.row row args) w' =>
  refine⟨hd,fun c cs _=>?_⟩;obtain⟨v,w2,h1,h2⟩:=h c cs;exact⟨v,w2,h1,stepsIn_wide.2 h2⟩
 | .ok (.round ..) w'=>exact h.elim
 | .halt (.panic v) w'=>exact h
theorem Z5l{n l:Nat}{P:Program}{ops:Array Oper}{Q:Exit->Act->World->Prop}(hQ:¬ LetsOut Q):∀ (L:List Oper) (a:Act) (w:World),L.all Z5k=true->wpList P ops Q L a w->wpListIn (lX.inRound l) n P ops Q L a w
 | [],a,w,_,h=>h
 | o :: rest,a,w,hL,h=>by
  simp only[List.all_cons,lW] at hL;unfold wpList at h;unfold wpListIn;split at h
  ·rename_i hw;rw[if_pos hw];rcases h with h | ⟨_,h⟩
   ·refine⟨fun _ _=>trivial,?_⟩;rw[Oper.semAt_plain _ _ _ (fun c hc=>by have:=hL.1;simp[Z5k,hc] at this)];refine Zhh l _ ?_;have hrest:=fun a w=>Z5l (n:=n) (l:=l) (P:=P) (ops:=ops) hQ rest a w hL.2;have hm:∀ r,o.upon P a (wpList P ops Q rest) Q r->o.upon P a (wpListIn (lX.inRound l) n P ops Q rest) Q r:=by
     intro r h
     match r with
     | .ok (.value v) w'=>exact hrest _ _ h
     | .ok .skip w'=>exact hrest _ _ h
     | .ok (.defer d) w'=>exact hrest _ _ h
     | .ok (.enter f args) w' =>
      refine Calls.mono h fun e w2 h2=>?_;cases e with
      | returned v=>exact hrest _ _ h2
      | panicked c=>exact h2
      | outgrown=>exact h2
     | .ok (.row row args) w'=>exact Rows.mono h fun v w2 h2=>hrest _ _ h2
     | .ok (.round ..) w'=>exact h.elim
     | .halt (.panic v) w'=>exact h
    exact hm _ h
   ·exact (hQ h).elim
  ·rename_i hw;rw[if_neg hw];exact⟨fun _ _=>trivial,Z5l hQ rest _ _ hL.2 h⟩
theorem Zhi{P:Program}{f:FuncId}{fn:Func}{c:Code}{args:Array Value}{w:World}{R:Ending->World->Prop}
  (hf:P.funcs[f]?=some fn) (hb:fn.body=some c)
  (h:c.wp P (bodyPostM lX 0 P fn R) { tmps:=args++Array.replicate (fn.ntmps - args.size) undef,defers:=[] } w):Calls P f args w R :=
 (callsIn_wide (n:=0)).1 (callsIn_of_wp_marks hf hb trivial (wpIn_wide.2 h))
theorem Zhj{P:Program}{fn:Func}{tmps:Array Value}{R:Ending->World->Prop}{D:Nat}{W:World}(hD:W.heap[D]?=some (.deferred (some [])))(v:Value)
  (hr:(results fn tmps).run P (W.putObj D (.deferred none))=.ok v (W.putObj D (.deferred none))) (hR:R (.returned v) (W.putObj D (.deferred none))) :
  LeavesInM lX 0 P fn tmps R [{ target:=.collected D,args:=#[] }] .returning W:=by
 refine⟨by simp,.inl ⟨_,_,rfl,run_takeDeferred hD,?_⟩⟩;exact⟨v,hr,hR⟩
end
end
section
section
def Z5m(x:Str):Str:=Lib.trimSuffix x [10]
def Zhk(x:Str):Bool:=(Z1i (Z5m x)).tail.all pok
def Zhl(x:Str):Br:=⟨(Z1i (Z5m x)).headD [],(Z1i (Z5m x)).tail.map pd⟩
def U2(s:Str):Tab:=(Z36 s).map Zhl
def Z1j(s:Str):Bool:=(Z36 s).all Zhk && decide (Yu (U2 s)=0) && decide (Jh (U2 s)=s)
end
section
open Go.RowKit
theorem Zhm(a0 a1 a2 a3 a4 a5 a6 a7 a8 a9 a10 a11 a12 a13 a14 a15 a16 a17 a18 a19 a20 a21 a22 a23 a24 a25 a26 a27 a28 a29 a30 a31:Value)(w:World):(lI 37 1 #[(0,.agg #[a0,a1,a2,a3,a4,a5,a6,a7,a8,a9,a10,a11,a12,a13,a14,a15,a16,a17,a18,a19,a20,a21,a22,a23,a24,a25,a26,a27,a28,a29,a30,a31])]).run lC w=.ok (.slice (some ⟨w.heap.size,0,none⟩) 1 1) (w.alloc (.cells #[a0,a1,a2,a3,a4,a5,a6,a7,a8,a9,a10,a11,a12,a13,a14,a15,a16,a17,a18,a19,a20,a21,a22,a23,a24,a25,a26,a27,a28,a29,a30,a31] 47)):=by kernel_rfl
theorem Zhn(l:List Value)(h:l.length=32)(w:World):(lI 37 1 #[(0,.agg l.toArray)]).run lC w=.ok (.slice (some ⟨w.heap.size,0,none⟩) 1 1) (w.alloc (.cells l.toArray 47)):=by
 obtain⟨a0,l,rfl⟩:=lA h;replace h:=lB h;obtain⟨a1,l,rfl⟩:=lA h;replace h:=lB h;obtain⟨a2,l,rfl⟩:=lA h;replace h:=lB h;obtain⟨a3,l,rfl⟩:=lA h;replace h:=lB h;obtain⟨a4,l,rfl⟩:=lA h;replace h:=lB h;obtain⟨a5,l,rfl⟩:=lA h;replace h:=lB h;obtain⟨a6,l,rfl⟩:=lA h;replace h:=lB h;obtain⟨a7,l,rfl⟩:=lA h;replace h:=lB h;obtain⟨a8,l,rfl⟩:=lA h;replace h:=lB h;obtain⟨a9,l,rfl⟩:=lA h;replace h:=lB h;obtain⟨a10,l,rfl⟩:=lA h;replace h:=lB h;obtain⟨a11,l,rfl⟩:=lA h;replace h:=lB h;obtain⟨a12,l,rfl⟩:=lA h;replace h:=lB h;obtain⟨a13,l,rfl⟩:=lA h;replace h:=lB h;obtain⟨a14,l,rfl⟩:=lA h;replace h:=lB h;obtain⟨a15,l,rfl⟩:=lA h;replace h:=lB h;obtain⟨a16,l,rfl⟩:=lA h;replace h:=lB h;obtain⟨a17,l,rfl⟩:=lA h;replace h:=lB h;obtain⟨a18,l,rfl⟩:=lA h;replace h:=lB h;obtain⟨a19,l,rfl⟩:=lA h;replace h:=lB h;obtain⟨a20,l,rfl⟩:=lA h;replace h:=lB h;obtain⟨a21,l,rfl⟩:=lA h;replace h:=lB h;obtain⟨a22,l,rfl⟩:=lA h;replace h:=lB h;obtain⟨a23,l,rfl⟩:=lA h;replace h:=lB h;obtain⟨a24,l,rfl⟩:=lA h;replace h:=lB h;obtain⟨a25,l,rfl⟩:=lA h;replace h:=lB h;obtain⟨a26,l,rfl⟩:=lA h;replace h:=lB h;obtain⟨a27,l,rfl⟩:=lA h;replace h:=lB h;obtain⟨a28,l,rfl⟩:=lA h;replace h:=lB h;obtain⟨a29,l,rfl⟩:=lA h;replace h:=lB h;obtain⟨a30,l,rfl⟩:=lA h;replace h:=lB h;obtain⟨a31,l,rfl⟩:=lA h;replace h:=lB h;obtain rfl:=List.eq_nil_of_length_eq_zero h;exact Zhm _ _ _ _ _ _ _ _ _ _ _ _ _ _ _ _ _ _ _ _ _ _ _ _ _ _ _ _ _ _ _ _ w
theorem Zho{ops:Array Oper}{rest:List Oper}{o:Oper}{a:Act}{w:World}{Q:Exit->Act->World->Prop}(x:Operand)(ho:o.op=.buildSlice 37 1 #[(0,x)])(hgd:o.guard=none)(l:List Value)(hl:l.length=32)
  (hx:a.eval x=.agg l.toArray)
  (h:wpList lC ops Q rest (a.put o.dst (.slice (some ⟨w.heap.size,0,none⟩) 1 1)) (w.alloc (.cells l.toArray 47))):wpList lC ops Q (o :: rest) a w:=by
 refine lK hgd fun K hK=>?_;unfold lE;have e:(#[(0,x)]:Array (Nat × Operand)).map (fun (i,x)=>(i,a.eval x))=#[(0,.agg l.toArray)]:=by simp[hx]
 have hr:(execOp a.eval o).run lC w=.ok (.value (.slice (some ⟨w.heap.size,0,none⟩) 1 1)) (w.alloc (.cells l.toArray 47)):=by
  simp only[execOp,ho,e,lF,Zhn l hl,lH,lG]
 rw[hr];exact hK _ _ h
def Z09(Q:Exit->Act->World->Prop)(e:Exit)(a:Act)(w:World):Prop:=e ≠ .outgrown/\Q e a w
theorem Z09.out{Q:Exit->Act->World->Prop}:¬ LetsOut (Z09 Q):=fun ⟨_,_,h,_⟩=>h rfl
theorem Zhp{F:Fence}{n:Nat}{P:Program}{o:Oper}{a:Act}{K K':Act->World->Prop}{Q Q':Exit->Act->World->Prop}(hK:∀ a w,K a w->K' a w)(hQ:∀ e a w,Q e a w->Q' e a w):∀ r,o.uponIn F n P a K Q r->o.uponIn F n P a K' Q' r:=by
 have hL:LetsOut Q->LetsOut Q':=fun ⟨a,w,h⟩=>⟨a,w,hQ _ _ _ h⟩;intro r h
 match r with
 | .ok (.value v) w'=>exact hK _ _ h
 | .ok .skip w'=>exact hK _ _ h
 | .ok (.defer d) w'=>exact hK _ _ h
 | .ok (.enter f args) w' =>
  refine⟨h.1,h.2.mono fun e w2 h2=>?_⟩;cases e with
  | returned v=>exact hK _ _ h2
  | panicked c=>exact hQ _ _ _ h2
  | outgrown=>exact hL h2
 | .ok (.row row args) w'=>exact⟨h.1,h.2.mono fun v w2 h2=>hK _ _ h2⟩
 | .ok (.round l f tmps assign body) w' =>
  refine⟨h.1,h.2.mono fun e w2 h2=>?_⟩;cases e with
  | returned v=>exact hK _ _ h2
  | panicked c=>exact hQ _ _ _ h2
  | outgrown=>exact hL h2
 | .halt (.panic v) w'=>exact hQ _ _ _ h
theorem Z5n{F:Fence}{n:Nat}{P:Program}{ops:Array Oper}{Q Q':Exit->Act->World->Prop}(hQ:∀ e a w,Q e a w->Q' e a w):∀ (L:List Oper) (a:Act) (w:World),wpListIn F n P ops Q L a w->wpListIn F n P ops Q' L a w
 | [],_,_,h=>hQ _ _ _ h
 | o :: rest,a,w,h=>by
  unfold wpListIn at h ⊢;split at h
  ·rename_i hw;rw[if_pos hw];exact⟨h.1,Zhp (fun a w=>Z5n hQ rest a w) hQ _ h.2⟩
  ·rename_i hw;rw[if_neg hw];exact⟨h.1,Z5n hQ rest _ _ h.2⟩
theorem Z9y{n l:Nat}{P:Program}{ops:Array Oper}{Q:Exit->Act->World->Prop}{L:List Oper}{a:Act}{w:World}(hL:L.all Z5k=true)(h:wpList P ops (Z09 Q) L a w):wpListIn (lX.inRound l) n P ops Q L a w :=
 Z5n (fun _ _ _ h=>h.2) L a w (Z5l Z09.out L a w hL h)
end
section
open Go.RowKit Go.Shelf
attribute [local go_sem] Oper.semAt_some
def Z9z(w:World)(s:Str)(e:Ending)(w':World):Prop :=
 Below w.heap.size w w'/\if Z1j s=true then ∃ v,e=.returned (.tuple #[v,.int .i64 0])/\Zz w' w.heap.size v (U2 s) else e=.returned (.tuple #[.slice none 0 0,.int .i64 7])
theorem Zhq{A:World}{g i:Nat}{u:Value}{t:TypeId}{cs:List Value}{base:Nat}{T:TypeId}{sz n:Nat}{v:Value}{xs:List Value}(ho:A.ownsRow base T sz v n xs)(hB:Blk A g t cs)(hT:T ≠ t):(A.setCell ⟨g,i,none⟩ u).ownsRow base T sz v n xs :=
 Zk ho (Touch.setCell (L:=[g]) u (by simp)) (fun b hb hm=>by
  simp only[List.mem_singleton] at hm;subst hm;rcases ho.2 with ⟨rfl,_⟩ | ⟨g',cap,cur,rfl,_,hg',_⟩
  ·cases hb
  ·have e':g'=b:=by simpa[lJ] using hb
   subst e';unfold Blk at hB;rw[hg'] at hB
   injection hB with hB
   injection hB with _ ht
   exact hT ht)
theorem Z37{A:World}{base:Nat}{T:TypeId}{sz n:Nat}{v:Value}{xs:List Value}(ho:A.ownsRow base T sz v n xs):∀ r,v.ownBlock=some r->∃ cs,Blk A r T cs:=by
 intro r e;rcases ho.2 with ⟨rfl,_⟩ | ⟨g',cap,cur,rfl,_,hg',_⟩
 ·cases e
 ·have e':g'=r:=by simpa[lJ] using e
  subst e';exact⟨cur.toList,by unfold Blk;simpa using hg'⟩
theorem Blk.unique{A:World}{g:Nat}{t t':TypeId}{cs cs':List Value}(h:Blk A g t cs)(h':Blk A g t' cs'):t=t':=by
 unfold Blk at h h';rw[h] at h'
 injection h' with h'
 injection h' with _ ht
end
end
end
section

end
section

end
section
open Go.RowKit
theorem nmOk_len'{s:Str}(h:Yi s=true):s.length<=24:=by
 simp only[Yi,lW,decide_eq_true_eq] at h;exact h.2
end
section
open Go.RowKit
theorem Jk{P:Program}{w:World}{o:Oper}{a:Act}(t:TypeId)(x k:Operand)(c:Bool)(ho:o.op=.lookup t x k c)(M K r:Value)(hx:a.eval x=M)(hk:a.eval k=K)(h:(Instr.lookup t M K c).run P w=.ok r w):(execOp a.eval o).run P w=.ok (.value r) w:=by
 simp only[execOp,ho,hx,hk,lF,h,lH,lG]
theorem Ok{P:Program}{w w':World}{o:Oper}{a:Act}(t:TypeId)(m k x:Operand)(ho:o.op=.mapUpdate t m k x)(M K X:Value)(hm:a.eval m=M)(hk:a.eval k=K)(hx:a.eval x=X)(h:(Instr.mapUpdate t M K X).run P w=.ok () w'):(execOp a.eval o).run P w=.ok .skip w':=by
 simp only[execOp,ho,hm,hk,hx,lF,h,lH,lG]
theorem Ol{P:Program}{ops:Array Oper}{rest:List Oper}{o:Oper}{a:Act}{w w':World}{Q:Exit->Act->World->Prop}(hgd:o.guard=none)
  (hrun:(execOp a.eval o).run P w=.ok .skip w') (h:wpList P ops Q rest (a.put o.dst undef) w'):wpList P ops Q (o :: rest) a w:=by
 refine lK hgd fun _ hK=>?_;unfold lE;rw[hrun];exact hK _ _ h
theorem Ke{P:Program}{ops:Array Oper}{rest:List Oper}{o:Oper}{a:Act}{w w':World}{Q:Exit->Act->World->Prop}(hgd:o.guard=none)(v:Value)
  (hrun:(execOp a.eval o).run P w=.ok (.value v) w') (h:wpList P ops Q rest (a.put o.dst v) w'):wpList P ops Q (o :: rest) a w:=by
 refine lK hgd fun _ hK=>?_;unfold lE;rw[hrun];exact hK _ _ h
theorem Z5v(w:World){o:Oper}{a:Act}{x y:Operand}{yt:TypeId}(ho:o.op=.binOp .neq 158 x y yt)(r s:PRef)(hxe:a.eval x=Zl r)(hye:a.eval y=Zl s)(hr:r.com.length=32)(hs:s.com.length=32) :
  (execOp a.eval o).run lC w=.ok (.value (.bool (!(r.own == s.own && (r.com == s.com && r.n == s.n))))) w:=by
 have h1:(eqGuard .neq 158 x y (Zl r) (Zl s)).run lC w=.ok () w:=run_eqGuard_agg (P:=lC) w .neq 158 x y _ _ Tryz.eqGuardType158;have h2:(binOp .neq 158 (Zl r) (Zl s)).run lC w=.ok (.bool (!(r.own == s.own && (r.com == s.com && r.n == s.n)))) w:=by
  have h:=Z4y w r s hr hs;unfold Zl at h ⊢;rw[run_neq_struct,h];rfl
 simp only[execOp,ho,hxe,hye,lF,h1,lH,h2,lG]
end
end Go.Proofs.YtfdimggmljkkbaaGreatDoor
