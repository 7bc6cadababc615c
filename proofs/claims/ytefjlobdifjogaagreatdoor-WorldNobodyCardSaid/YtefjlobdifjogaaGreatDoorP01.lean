import Derived.WalkKit
import Derived.WalkSpells
import Derived.WalkLawsBesides
import Derived.Below
import Derived.Laws.OwnMore
import Derived.Deep.Draws
import Derived.Laws.Rows
import Derived.Lib.Hide
import Derived.StillTailTactics
import Derived.Laws.CopyOwn
import Derived.Deep.MidRow
import Derived.StillTail
import Derived.Deep.Quiet
import Derived.Maps.RangeWalk
import Derived.Maps.AppendAt
import Derived.Deep.AppendLies
import Derived.RegionTactic
import Derived.OwnWalk
import Derived.Laws.BytesArg
import Derived.Lib.SlBytesConst
import Derived.BigQuiet
import Derived.Test.YtefjlobdifjogaaGreatDoorRows
import Derived.Deep.WholeRow
import Derived.BigRegion
import Derived.Deep.QuietTactic
import Derived.LoopTactic
import Derived.IntWalk
import Derived.WalkSmall
import Derived.Laws.ResultCell
import Derived.Laws.StructEq
import Derived.Maps.OwnSet
import Derived.Maps.Ext
import Derived.Maps.StringElems
import Derived.Sort.KeysCollected
import Derived.Test.YtefjlobdifjogaaGreatDoorProg
import Derived.Maps.OwnOps
import Derived.Sort.OwnSorted
open Array renaming getElem?_eq_some_iff → nI, replicate → nV, setIfInBounds_comm → kL
open BitVec renaming ofInt → lI, isLt → nH
open Bool renaming and_eq_true → lF
open ByteArray renaming size → k7
open Go renaming run_underlying → lK, ready_mono → lW, wpList_plain → l7, getD_both → l8, getD_set_ne → l9, getD_replicate_false → nC, wpQuiet_nil → nM, yieldsIn_of_qOp → nT, run_sliceBound → nX, run_loadVar_mid → n2, below_drewN → kA
open Go.Addr renaming add → l2
open Go.Builtin renaming append_ → nE, lenOf → kQ
open Go.Code renaming region → nB
open Go.DataW renaming insert → lS
open Go.Ending renaming returned → bB
open Go.Instr renaming sureAddr → lU, sliceAt → lX, sliceBounds → nW, loadAt → nZ, index → n9, storeAt → kI, slice → kP
open Go.IntKind renaming bits → kT, signed → kU
open Go.Maps renaming size → kC
open Go.Op renaming equalIn → l0, bytesLess → kB
open Go.Oper renaming wp → l4, quietAt → l5, quietUpon → nJ
open Go.Proofs.Tryz renaming prog → lA
open Go.Region renaming ready → lC, Mode → lG, wanted → lM, binds → lQ, noSelect → nA, lexHead → nS, lexTailB → nU, waitsFor → n5, noSelect_spec → kM, free_spec → kN, free → kW
open Go.Result renaming andThen_ok → lB
open Go.RowKit.Below renaming refl → lO, heap_setCell → kH
open Go.Sem renaming run_bind → lD, run_pure → lE
open Go.Value renaming int → nK
open Go.World renaming block_lt_of_cell? → kJ
open Int renaming toNat_of_nonneg → kG
open List renaming length_cons → lH, map_cons → lN, getElem?_eq_some_iff → lT, getElem?_eq_getElem → lV, length_append → lY, length_map → lZ, getElem?_cons_zero → l1, getElem?_append_left → l3, replicate → nL, mem_cons → nN, getElem?_append_right → nO, getElem?_drop → nR, map_map → n7, mem_map → n8, sum_cons → kD, pairwise_cons → kE, map_nil → kR, map_congr_left → kX, all_eq_true → kY, length_take → kZ, drop_of_length_le → k4, drop_eq_getElem_cons → k5, mem_filter → k6, getElem_mem → bC, cons_append → bD, take_left' → bE, drop_left' → bF
open List.cons renaming injEq → n6
open Nat renaming add_assoc → lJ, le_refl → lP, pow_succ → l6, zero_le → nF, mod_eq_of_lt → nG, mul_comm → nP, lt_or_ge → nQ, mul_assoc → kF, zero_add → kK, add_comm → kO, le_trans → k8, lt_of_lt_of_le → k9, sub_self → bA, mul_div_cancel → bG
open Option renaming map_some → nD, map_none → nY
open Option.some renaming injEq → lR, inj → kV
open Prod.mk renaming injEq → n3
open UInt32 renaming ofNat → n4
open UInt8 renaming ofNat → lL, toNat_inj → kS
namespace Go.Proofs.YtefjlobdifjogaaGreatDoor
section
section
open Go.RowKit
theorem bL{w:World}{o:Obj}:Below w.heap.size w (w.alloc o):=(lO _ _).alloc (lP _) _
def Blk(w:World)(g:Nat)(t:TypeId)(cs:List Value):Prop:=w.heap[g]?=some (.cells cs.toArray t (0,0))
section
variable {w w':World} {g:Nat} {t:TypeId} {cs:List Value}
theorem Blk.lt(h:Blk w g t cs):g<w.heap.size:=by
 rcases nQ g w.heap.size with hlt | hge
 ·exact hlt
 ·unfold Blk at h;rw[Array.getElem?_eq_none hge] at h;cases h
theorem Blk.cell(h:Blk w g t cs)(i:Nat):w.cell? ⟨g,i,none⟩=cs[i]?:=by
 rw[cell_of_row w g i cs.toArray t (0,0) h];simp
theorem Blk.frozen(h:Blk w g t cs)(i:Nat):w.frozen? ⟨g,i,none⟩=false:=by
 unfold Blk at h;simp[World.frozen?,h]
theorem Blk.new_at{w:World}{g:Nat}{t:TypeId}{cs:List Value}(h:g=w.heap.size):Blk (w.alloc (.cells cs.toArray t)) g t cs:=by
 subst h;exact heap_alloc_new w _
theorem Blk.drew(h:Blk w g t cs):Blk w.drew g t cs:=h
theorem Blk.drewN(h:Blk w g t cs)(n:Nat):Blk (w.drewN n) g t cs:=h
theorem Blk.alloc(h:Blk w g t cs)(o:Obj):Blk (w.alloc o) g t cs:=(Below.heap_alloc w o g h.lt).trans h
theorem Blk.set_(h:Blk w g t cs)(i:Nat)(u:Value):Blk (w.setCell ⟨g,i,none⟩ u) g t (cs.set i u):=by
 unfold Blk at h ⊢;simp[World.setCell,Array.getElem?_modify,h]
theorem Blk.far(h:Blk w g t cs){p:Addr}(hp:g ≠ p.block)(u:Value):Blk (w.setCell p u) g t cs:=(kH w p u g hp).trans h
theorem Blk.setRow_same(h:Blk w g t cs)(cs':List Value):Blk (w.setRow g cs'.toArray) g t cs':=setRow_heap w g _ _ t _ h
theorem Blk.setRow_far(h:Blk w g t cs){g':Nat}(hg:g ≠ g')(c:Array Value):Blk (w.setRow g' c) g t cs:=(setRow_other w g' g c hg).trans h
theorem Blk.below{B:Nat}(h:Blk w g t cs)(hb:Below B w w')(hg:g<B):Blk w' g t cs:=(hb.block g hg).trans h
theorem Blk.grown{row:Option Nat}(h:Blk w g t cs)(hb:w.grownBy w' row)(hg:some g ≠ row):Blk w' g t cs:=(hb.block g h.lt hg).trans h
theorem Blk.ne_{g':Nat}{t':TypeId}{cs':List Value}(h:Blk w g t cs)(h':Blk w g' t' cs')(hne:t ≠ t'):g ≠ g':=by
 rintro rfl;unfold Blk at h h';rw[h] at h'
 injection h' with h'
 injection h' with _ ht
 exact hne ht
end
theorem Jk(g o j:Nat):(⟨g,o,none⟩:Addr).add j=⟨g,o+j,none⟩:=by unfold l2;split <;> simp_all
theorem Z0y{w:World}{g:Nat}{t:TypeId}{cs:List Value}(h:Blk w g t cs)(o:Nat)(l r:List Value)(hl:cs.drop o=l++r):∀ j v,l[j]?=some v->w.cell? ((⟨g,o,none⟩:Addr).add j)=some v:=by
 intro j v hv;rw[Jk,h.cell];have : (cs.drop o)[j]?=some v:=by
  rw[hl,l3 (lT.1 hv).1];exact hv
 simpa[nR] using this
section
variable {P:Program}
theorem Y2{ops:Array Oper}{rest:List Oper}{o:Oper}{a:Act}{w:World}{Q:Exit->Act->World->Prop}(op:Op)(_ho:o.op=op)(hgd:o.guard=none)(v:Value)
  (hrun:(execOp a.eval o).run P w=.ok (.value v) w) (h:wpList P ops Q rest (a.put o.dst v) w):wpList P ops Q (o :: rest) a w:=by
 refine l7 hgd fun _ hK=>?_;unfold l4;rw[hrun];exact hK _ _ h
theorem Zy{ops:Array Oper}{rest:List Oper}{o:Oper}{a:Act}{w:World}{Q:Exit->Act->World->Prop}(hgd:o.guard=none)(ty:TypeId)(x:Operand)(ho:o.op=.load ty x)
  (g:Nat) (hx:a.eval x=.pointer (some ⟨g,0,none⟩)) (t:TypeId) (cs:List Value) (hg:Blk w g t cs) (d:TypeDesc)
  (hu:P.underlying ty=some d) (hd:(match d with | .struct _ | .array _ _=>true | _=>false)=true) (hi:(P.info? ty).map (·.size)=some cs.length)
  (h:wpList P ops Q rest (a.put o.dst (.agg cs.toArray)) w):wpList P ops Q (o :: rest) a w :=
 wpList_load_row hgd ty x ho g hx t cs.toArray (0,0) d hg hu hd (by simpa using hi) h
theorem Zd{ops:Array Oper}{rest:List Oper}{op:Oper}{a:Act}{w:World}{Q:Exit->Act->World->Prop}(hgd:op.guard=none)(ty:TypeId)(x y:Operand)(ho:op.op=.store ty x y)
  (g:Nat) (cells:List Value) (hx:a.eval x=.pointer (some ⟨g,0,none⟩)) (hy:a.eval y=.agg cells.toArray) (t:TypeId) (old:List Value) (hg:Blk w g t old) (hl:old.length=cells.length)
  (hi:(P.info? ty).map (·.size)=some cells.length) (h1:∀ v ∈ cells,v.oneCell'=true)
  (h:wpList P ops Q rest (a.put op.dst undef) (w.setRow g cells.toArray)):wpList P ops Q (op :: rest) a w:=by
 refine l7 hgd fun _ hK=>?_;unfold l4 execOp;simp only[ho,hx,hy,kI,lU,lD,lE,lB,
  run_storeVar_row (P:=P) w g t ty old.toArray cells.toArray hg (by simpa using hi) (by simpa using hl) (all_oneCell_toArray h1)]
 exact hK _ _ h
theorem Xj{ops:Array Oper}{rest:List Oper}{op:Oper}{a:Act}{w:World}{Q:Exit->Act->World->Prop}(hgd:op.guard=none)(ty:TypeId)(x:Operand)(ho:op.op=.load ty x)
  (g o:Nat) (hx:a.eval x=.pointer (some ⟨g,o,none⟩)) (t:TypeId) (cs part r:List Value) (hg:Blk w g t cs) (hp:cs.drop o=part++r) (d:TypeDesc)
  (hu:P.underlying ty=some d) (hd:d.isRow=true) (hi:(P.info? ty).map (·.size)=some part.length)
  (h:wpList P ops Q rest (a.put op.dst (.agg part.toArray)) w):wpList P ops Q (op :: rest) a w :=
 wpList_load_mid hgd ty x ho g o hx part d (fun j v hv=>by have:=Z0y hg o part r hp j v hv;rwa [Jk] at this) hu hd hi h
theorem Z0z{ops:Array Oper}{rest:List Oper}{op:Oper}{a:Act}{w:World}{Q:Exit->Act->World->Prop}(hgd:op.guard=none)(ty:TypeId)(x y:Operand)(ho:op.op=.store ty x y)
  (g o:Nat) (cells:List Value) (hx:a.eval x=.pointer (some ⟨g,o,none⟩)) (hy:a.eval y=.agg cells.toArray) (t:TypeId) (old:List Value) (hg:Blk w g t old) (hl:o+cells.length<=old.length)
  (hi:(P.info? ty).map (·.size)=some cells.length) (h1:∀ v ∈ cells,v.oneCell'=true)
  (h:wpList P ops Q rest (a.put op.dst undef) (w.setRow g (splice old o cells).toArray)):wpList P ops Q (op :: rest) a w:=by
 refine l7 hgd fun _ hK=>?_;have hst:=run_storeCells_at P g o t cells 0 old.toArray w hg (by simpa using hl) h1;cases hq:P.info? ty with
 | none=>simp[hq] at hi
 | some i =>
  have hs:cells.length=i.size:=by simp[hq] at hi;omega
  simp only[Nat.add_zero] at hst;have hrun:(storeVar ty ⟨g,o,none⟩ (.agg cells.toArray)).run P w=.ok () (w.setRow g (splice old o cells).toArray):=by
   simp[storeVar,sizeOf,typeInfo,hq,Value.cells,hs,hst,splice]
  unfold l4 execOp;simp only[ho,hx,hy,kI,lU,lD,lE,lB,hrun];exact hK _ _ h
theorem Qe{fn:Func}{R:Ending->World->Prop}{a:Act}{w:World}{p:Tmp}{ty:TypeId}(hres:fn.results=#[.cell p ty])(g:Nat)(t:TypeId)(cs:List Value)(d:TypeDesc)
  (hp:a.tmps.getD p undef=.pointer (some ⟨g,0,none⟩)) (hg:Blk w g t cs) (hu:P.underlying ty=some d) (hd:(match d with | .struct _ | .array _ _=>true | _=>false)=true)
  (hi:(P.info? ty).map (·.size)=some cs.length) (hdef:a.defers=[]) (hR:R (.returned (.agg cs.toArray)) w):bodyPost P fn R .ret a w :=
 bodyPost_ret (results_cell_row hres a.tmps w g t cs.toArray (0,0) d hp hg hu hd (by simpa using hi)) hdef hR
end
theorem Z5k{P:Program}{w:World}{ops:Array Oper}{rest:List Oper}{o:Oper}{a:Act}{Q:Exit->Act->World->Prop}(hgd:o.guard=none)(d s:Operand)(dT sT:TypeId)
  (ho:o.op=.call { callee:=.builtin .copy,args:=#[d,s],argTypes:=#[dT,sT] }) (elem:TypeId) (hu:P.underlying dT=some (.slice elem)) (hsz:(P.info? elem).map (·.size)=some 1)
  (g off dLen dCap:Nat) (ad:Addr) (sLen sCap:Nat) (hd:a.eval d=.slice (some ⟨g,off,none⟩) dLen dCap) (hs:a.eval s=.slice (some ad) sLen sCap)
  (cur:List Value) (t:TypeId) (hg:Blk w g t cur) (cs:List Value) (hn:cs.length=Nat.min sLen dLen)
  (hsrc:∀ j v,cs[j]?=some v->w.cell? (ad.add j)=some v) (hfit:off+cs.length<=cur.length) (h1:∀ v ∈ cs,v.oneCell'=true)
  (h:wpList P ops Q rest (a.put o.dst (goInt cs.length)) (w.setRow g (splice cur off cs).toArray)):wpList P ops Q (o :: rest) a w :=
 wpList_copy_own hgd d s dT sT ho elem hu hsz g off dLen dCap ad sLen sCap hd hs cur.toArray t hg cs hn hsrc (by simpa using hfit) h1 h
end
section
open Go.RowKit
theorem Z10(a:Addr)(n:Nat):(a.add n).block=a.block:=by unfold l2;split <;> rfl
theorem add_add(a:Addr)(i j:Nat):(a.add i).add j=a.add (i+j):=by
 unfold l2;by_cases hi:i=0 <;> by_cases hj:j=0 <;> simp[hi,hj,lJ]
def Rd(w:World)(ok:Nat->Prop)(A:Option Addr)(xs:List Value):Prop :=
 0<xs.length->∃ ad,A=some ad/\ok ad.block/\∀ j u,xs[j]?=some u->w.cell? (ad.add j)=some u
section
variable {w w':World} {ok ok':Nat->Prop} {A:Option Addr} {xs:List Value}
theorem Rd.nil:Rd w ok A []:=fun h=>absurd h (by simp)
theorem Rd.keep(h:Rd w ok A xs)(hk:∀ p:Addr,ok p.block->w'.cell? p=w.cell? p):Rd w' ok A xs:=fun hn=>by
 obtain⟨ad,e,hb,hc⟩:=h hn;exact⟨ad,e,hb,fun j u hu=>(hk _ (by rw[Z10];exact hb)).trans (hc j u hu)⟩
theorem Rd.weak(h:Rd w ok A xs)(hk:∀ b,b<w.heap.size->ok b->ok' b):Rd w ok' A xs:=fun hn=>by
 obtain⟨ad,e,hb,hc⟩:=h hn;refine⟨ad,e,hk _ ?_ hb,hc⟩;have:=hc 0 xs[0] (lV hn);have h2:=kJ _ _ this
 rwa [Z10] at h2
theorem Rd.below{B:Nat}(h:Rd w (· < B) A xs)(hb:Below B w w'):Rd w' (· < B) A xs:=h.keep fun _ hp=>hb.cell hp
theorem Rd.drewN(h:Rd w ok A xs)(n:Nat):Rd (w.drewN n) ok A xs:=h
theorem Rd.drew(h:Rd w ok A xs):Rd w.drew ok A xs:=h
theorem Rd.cut(h:Rd w ok A xs){k cap:Nat}(hc:xs.length<=cap):Rd w ok (if cap=k then A else A.map (·.add k)) (xs.drop k):=fun hn=>by
 have hk:k<xs.length:=by simp at hn;omega
 obtain⟨ad,rfl,hb,hcell⟩:=h (by omega);rw[if_neg (by omega)];refine⟨ad.add k,rfl,by rw[Z10];exact hb,fun j u hu=>?_⟩;rw[add_add];exact hcell _ u (by rw[<-hu,nR])
theorem Rd.take(h:Rd w ok A xs)(k:Nat):Rd w ok A (xs.take k):=fun hn=>by
 have hk:0<xs.length:=by simp at hn;omega
 obtain⟨ad,rfl,hb,hcell⟩:=h hk;exact⟨ad,rfl,hb,fun j u hu=>hcell j u (by
  rw[List.getElem?_take] at hu;split at hu
  ·exact hu
  ·cases hu)⟩
theorem Rd.of_blk{g o:Nat}{t:TypeId}{cs r:List Value}(h:Blk w g t cs)(hp:cs.drop o=xs++r)(hok:ok g):Rd w ok (some ⟨g,o,none⟩) xs:=fun _ =>
 ⟨_,rfl,hok,Z0y h o xs r hp⟩
theorem Rd.of_own{base:Nat}{e:TypeId}{c n:Nat}(h:w.ownsRow base e 1 (.slice A n c) n xs):Rd w (base<=·) A xs:=fun hn=>by
 have hl:xs.length=n:=by simpa using h.1
 rcases h.2 with ⟨_,h0⟩ | ⟨g,cap,cur,hv,hg,_⟩
 ·omega
 have hA:A=some ⟨g,0,none⟩:=by injection hv
 subst hA;exact⟨_,rfl,hg,h.cells (g:=g) rfl⟩
end
theorem Z11{B:Nat}{w w':World}{g:Nat}(h:w.grownBy w' (some g))(hB:B<=w.heap.size)(hg:B<=g):Below B w w' :=
 (lO _ _).grown h hB (fun k hk=>by injection hk with hk;omega)
theorem Zbu{w w':World}{row:Option Nat}(h:Below w.heap.size w w'):w.grownBy w' row :=
 ⟨h.os,h.tape,h.output,h.size,fun k hk _=>h.block k hk⟩
end
section
section
variable {P:Program} {ops:Array Oper} {md:lG} {C:World->Prop}
def Oj(P:Program)(md:lG)(ops:Array Oper)(C:World->Prop)(n:Nat)(L:Array Bool->Act->Prop):Nat->Array Bool->Act->Prop
 | 0,listed,a=>L listed a
 | f+1,listed,a =>
  lC md ops listed ≠ []/\∀ i ∈ lC md ops listed,i<n/\qOp P ops C i (Oj P md ops C n L f (listed.setIfInBounds i true)) a
theorem Z5l{n g:Nat}{L:Array Bool->Act->Prop}{Q':Exit->Act->World->Prop}(hL:∀ listed a w,C w->L listed a->wpAny P md ops Q' g listed a w) :
  ∀ (f:Nat) (listed:Array Bool) (a:Act) (w:World),C w->Oj P md ops C n L f listed a->wpAny P md ops Q' (f+g) listed a w
 | 0,listed,a,w,hw,h=>by rw[kK];exact hL _ _ _ hw h
 | f+1,listed,a,w,hw,h=>by
  rw[show f+1+g=(f+g)+1 by omega];exact⟨fun h0=>absurd h0 h.1,fun i hi=>wpOp_of_qOp hw (fun a' w' hw' h'=>Z5l hL f _ a' w' hw' h') (h.2 i hi).2⟩
theorem Zbv{n i:Nat}{oi:Oper}{v:Value}{L:Array Bool->Act->Prop}(hi:ops[i]?=some oi)(hsel:∀ (j:Nat) (o:Oper) cs b,ops[j]?=some o->o.op ≠ .select cs b)
  (hs:Region.sinkB md ops n=true) (hc:Region.chainB md ops n=true) (hn:n<ops.size) (hin:i<n)
  (hdone:∀ listed a,L listed a->∀ j ∈ lC md ops listed,n<=j) :
  ∀ (f:Nat) (listed:Array Bool) (a:Act),HeadInv md ops n listed ->
   (∀ j oj,ops[j]?=some oj->j ≠ i->listed.getD j true=false->(∀ e ∈ oj.after,lQ md e=true->e.on ≠ i)->oi.apart ops oj=true) ->
   i ∈ lC md ops listed->YieldsIn P ops C oi v a ->
   Oj P md ops C n L f (listed.setIfInBounds i true) (a.put oi.dst v)->Oj P md ops C n L (f+1) listed a:=by
 intro f;induction f with
 | zero =>
  intro listed a inv _ hr hy H;have hun:=(mem_ready.1 hr).1;refine⟨fun h=>(by rw[h] at hr;cases hr),fun j hj=>?_⟩;have hjn:j<n:=by
   rcases nQ j n with h | h
   ·exact h
   ·exact absurd hj (tail_waits hs hc hn inv _ i rfl hin hun j h)
  refine⟨hjn,?_⟩;by_cases hji:j=i
  ·subst hji;exact hy.qOp hi H
  ·have:=hdone _ _ H j (lW hj hji);omega
 | succ f ih =>
  intro listed a inv hfree hr hy H;have hun:=(mem_ready.1 hr).1;refine⟨fun h=>(by rw[h] at hr;cases hr),fun j hj=>?_⟩;have hjn:j<n:=by
   rcases nQ j n with h | h
   ·exact h
   ·exact absurd hj (tail_waits hs hc hn inv _ i rfl hin hun j h)
  refine⟨hjn,?_⟩;by_cases hji:j=i
  ·subst hji;exact hy.qOp hi H
  ·have h1:=(H.2 j (lW hj hji)).2;obtain⟨hjun,oj,hoj,hall⟩:=mem_ready.1 hj;have hnot:∀ e ∈ oj.after,lQ md e=true->e.on ≠ i:=fun e he hb heq=>by
    have h1:=hall e he hb;rw[heq,l8 hun] at h1;cases h1
   have h2:=qOp_put hoj (hfree j oj hoj hji hjun hnot) (fun cs b=>hsel i oi cs b hi) (fun cs b=>hsel j oj cs b hoj) hy h1;have hfree':∀ k ok,ops[k]?=some ok->k ≠ i->(listed.setIfInBounds j true).getD k true=false ->
     (∀ e ∈ ok.after,lQ md e=true->e.on ≠ i)->oi.apart ops ok=true:=fun k ok hk hki hun hno=>by
    refine hfree k ok hk hki ?_ hno;by_cases hjk:j=k
    ·subst hjk;exact hjun
    ·rw[l9 true hjk] at hun;exact hun
   refine qOp_mono (fun a' h3=>ih (listed.setIfInBounds j true) a' (inv.set hj hjn) hfree' (lW hr (Ne.symm hji)) h3.1 ?_) h2;rw[kL _ _ hji];exact h3.2
theorem Z30{n g:Nat}{Lq:Act->Prop}(hsel:nA ops=true)(hs:Region.sinkB md ops n=true)(hc:Region.chainB md ops n=true)(hn:n<ops.size) :
  ∀ (l:List Oper) (k:Nat) (listed:Array Bool) (a:Act),(∀ j,j<l.length->l[j]?=ops[k+j]?)->k+l.length=n->HeadInv md ops n listed ->
  nS md ops g l.length k listed=true->wpQuiet P ops C Lq l a ->
  Oj P md ops C n (fun listed' a'=>Region.seqB md ops g n listed'=true/\Lq a') l.length listed a
 | [],k,listed,a,_,hk,_,hB,h=>by
  have : k=n:=by simpa using hk
  subst this;exact⟨by simpa[nS] using hB,h⟩
 | o :: l,k,listed,a,hl,hk,inv,hB,h=>by
  have h0:ops[k]?=some o:=by simpa using (hl 0 (by simp)).symm
  simp only[lH,nS,lF] at hB;obtain⟨⟨hr,hf⟩,hB'⟩:=hB;have hkn:k<n:=by simp only[lH] at hk;omega
  have hr':k ∈ lC md ops listed:=by simpa using hr
  have hst:qOp P ops C k (wpQuiet P ops C Lq l) a:=by unfold qOp;simp only[h0];exact h
  obtain⟨v,hy,hK⟩:=nT h0 hst;exact Zbv h0 (kM hsel) hs hc hn hkn (fun listed' a' hL=>seqB_ready hL.1) l.length listed a inv (kN h0 hf) hr' hy
   (Z30 hsel hs hc hn l (k+1) _ _ (fun j hj=>by have:=hl (j+1) (by simp;omega);simpa[lJ,kO 1 j] using this) (by simp only[lH] at hk;omega) (inv.set hr' hkn) hB' hK)
theorem Zbw{id:Nat}{Q:Exit->Act->World->Prop}{a:Act}{w:World}{l:List Oper}(n:Nat)(hm:P.follows .mixedOrders=true)(hB:nU .any l.toArray n=true)(hC:C w.drew)
  (h:wpQuiet P l.toArray C (fun a'=>∀ w',C w'->wpList P l.toArray Q (l.drop n) a' w') (l.take n) a):(nB id l.toArray true).wp P Q a w:=by
 simp only[nU,lF,decide_eq_true_eq] at hB;obtain⟨⟨⟨⟨hsel,hn⟩,hs⟩,hc⟩,hlex⟩:=hB;have hn':n<l.length:=by simpa using hn
 have htl:(l.take n).length=n:=by simp;omega
 have hdl:(l.drop n).length=l.toArray.size - n:=by simp
 have inv0:HeadInv .any l.toArray n (nV l.toArray.size false) :=
  ⟨by simp,fun j oj _ hl=>(by rw[nC] at hl;cases hl),fun t _ ht=>getD_in (by simpa using ht) (nC _ _)⟩
 have H:=Z30 (md:=.any) (g:=l.toArray.size - n) hsel hs hc hn (l.take n) 0 _ a (fun j hj=>by
  have hj':j<n:=by rw[htl] at hj;exact hj
  simp[hj']) (by simpa using htl) inv0 (by rw[htl];exact hlex) h
 refine wp_region_any hm ?_;have:=Z5l (Q':=Q) (g:=l.toArray.size - n) (fun listed a' w' hw' hL=>by
  have:=wpAny_of_seq (md:=.any) (Q':=Q) (l.drop n) n listed a' w' (fun j=>by simp[nR]) (by rw[hdl];exact hL.1) (hL.2 w' hw')
  rwa [hdl] at this) _ _ _ _ hC H
 rw[htl,show n+(l.toArray.size - n)=l.toArray.size by omega] at this;exact this
theorem Y7{id:Nat}{Q:Exit->Act->World->Prop}{a:Act}{w:World}{l:List Oper}(n:Nat)(hm:P.follows .mixedOrders=true)(hB:nU .any l.toArray n=true)
  (h:wpQuiet P l.toArray (fun w'=>∃ n,w'=w.drewN n) (fun a'=>∀ w',(∃ n,w'=w.drewN n)->wpList P l.toArray Q (l.drop n) a' w') (l.take n) a):(nB id l.toArray true).wp P Q a w :=
 Zbw (C:=fun w'=>∃ n,w'=w.drewN n) n hm hB ⟨1,rfl⟩ h
end
end
section
open Go.RowKit
section
variable {P:Program}
theorem Zc{ops:Array Oper}{rest:List Oper}{o:Oper}{a:Act}{C:World->Prop}{Q:Act->Prop}(op:Op)(_ho:o.op=op)(hgd:o.guard=none)(v:Value)
  (hrun:∀ w,C w->(execOp a.eval o).run P w=.ok (.value v) w) (h:wpQuiet P ops C Q rest (a.put o.dst v)):wpQuiet P ops C Q (o :: rest) a:=by
 refine wpQuiet_step fun K hK=>?_;have hw:lM o (yielded ops a.tmps)=true:=by simp[lM,hgd]
 rw[if_pos hw];exact⟨v,fun w hC=>by unfold l5;rw[hrun w hC];exact⟨rfl,rfl⟩,hK _ h⟩
theorem Zbx(w:World)(t elem:TypeId)(n:Nat)(hu:P.underlying t=some (.array n elem))(hs:(P.info? elem).map (·.size)=some 1)(b off l:Nat)(hl:l<n) :
  (lX t (.pointer (some ⟨b,off,none⟩)) (some (.int .i64 (l:Int))) none none).run P w=.ok (.slice (some ⟨b,off+l,none⟩) (n - l) (n - l)) w:=by
 cases hq:P.info? elem with
 | none=>simp[hq] at hs
 | some i =>
  have hi:i.size=1:=by simpa[hq] using hs
  have h1:¬ n=l:=by omega
  have h2:(l:Int)<=n:=by omega
  simp[lX,lK hu,nW,nX,sizeOf,typeInfo,hq,hi,h1,Jk,lU,Nat.le_of_lt hl]
theorem Zby{ops:Array Oper}{rest:List Oper}{o:Oper}{a:Act}{C:World->Prop}{Q:Act->Prop}(t:TypeId)(x lo:Operand)(ho:o.op=.slice t x (some lo) none none)(hgd:o.guard=none)
  (elem:TypeId) (n:Nat) (hu:P.underlying t=some (.array n elem)) (hs:(P.info? elem).map (·.size)=some 1) (b off l:Nat) (i:Int) (hx:a.eval x=.pointer (some ⟨b,off,none⟩)) (hlo:a.eval lo=.int .i64 i) (hi:i=(l:Int)) (hl:l<n)
  (h:wpQuiet P ops C Q rest (a.put o.dst (.slice (some ⟨b,off+l,none⟩) (n - l) (n - l)))):wpQuiet P ops C Q (o :: rest) a:=by
 refine Zc _ ho hgd _ (fun w _=>?_) h;subst hi;simp only[execOp,ho,hx,hlo,nD,nY,lD,Zbx w t elem n hu hs b off l hl,lB,lE]
def cutA(A:Option Addr)(cap k s:Nat):Option Addr:=if cap=k then A else A.map (·.add (k*s))
theorem Rd.cutA{w:World}{ok:Nat->Prop}{A:Option Addr}{xs:List Value}(h:Rd w ok A xs){k cap:Nat}(hc:xs.length<=cap):Rd w ok (cutA A cap k 1) (xs.drop k):=by
 have:=h.cut (k:=k) hc;unfold Proofs.YtefjlobdifjogaaGreatDoor.cutA;simpa using this
theorem Z12(w:World)(t elem:TypeId)(s:Nat)(hu:P.underlying t=some (.slice elem))(hs:(P.info? elem).map (·.size)=some s)(A:Option Addr)(n cap k:Nat)(hk:k<=n) :
  (lX t (.slice A n cap) (some (.int .i64 (k:Int))) none none).run P w=.ok (.slice (cutA A cap k s) (n - k) (cap - k)) w:=by
 cases hq:P.info? elem with
 | none=>simp[hq] at hs
 | some i =>
  have hi:i.size=s:=by simpa[hq] using hs
  simp[lX,kP,lK hu,nW,nX,sizeOf,typeInfo,hq,hi,hk,cutA]
theorem Z5m(w:World)(t elem:TypeId)(s:Nat)(hu:P.underlying t=some (.slice elem))(hs:(P.info? elem).map (·.size)=some s)(A:Option Addr)(n cap k j:Nat)(hk:k<=j)(hj:j<=cap) :
  (lX t (.slice A n cap) (some (.int .i64 (k:Int))) (some (.int .i64 (j:Int))) none).run P w=.ok (.slice (cutA A cap k s) (j - k) (cap - k)) w:=by
 cases hq:P.info? elem with
 | none=>simp[hq] at hs
 | some i =>
  have hi:i.size=s:=by simpa[hq] using hs
  simp[lX,kP,lK hu,nW,nX,sizeOf,typeInfo,hq,hi,hk,hj,cutA]
theorem Z5n{ops:Array Oper}{rest:List Oper}{o:Oper}{a:Act}{w:World}{Q:Exit->Act->World->Prop}(hgd:o.guard=none)(t:TypeId)(x lo:Operand)(ho:o.op=.slice t x (some lo) none none)
  (elem:TypeId) (s:Nat) (hu:P.underlying t=some (.slice elem)) (hs:(P.info? elem).map (·.size)=some s) (A:Option Addr) (n cap k:Nat) (hx:a.eval x=.slice A n cap) (hlo:a.eval lo=.int .i64 (k:Int)) (hk:k<=n)
  (h:wpList P ops Q rest (a.put o.dst (.slice (cutA A cap k s) (n - k) (cap - k))) w):wpList P ops Q (o :: rest) a w:=by
 refine Y2 _ ho hgd _ ?_ h;simp only[execOp,ho,hx,hlo,nD,nY,lD,Z12 w t elem s hu hs A n cap k hk,lB,lE]
theorem Gq{ops:Array Oper}{rest:List Oper}{o:Oper}{a:Act}{w:World}{Q:Exit->Act->World->Prop}(hgd:o.guard=none)(t:TypeId)(x lo hi:Operand)(ho:o.op=.slice t x (some lo) (some hi) none)
  (elem:TypeId) (s:Nat) (hu:P.underlying t=some (.slice elem)) (hs:(P.info? elem).map (·.size)=some s) (A:Option Addr) (n cap k j:Nat) (hx:a.eval x=.slice A n cap) (hlo:a.eval lo=.int .i64 (k:Int)) (hhi:a.eval hi=.int .i64 (j:Int)) (hk:k<=j) (hj:j<=cap)
  (h:wpList P ops Q rest (a.put o.dst (.slice (cutA A cap k s) (j - k) (cap - k))) w):wpList P ops Q (o :: rest) a w:=by
 refine Y2 _ ho hgd _ ?_ h;simp only[execOp,ho,hx,hlo,hhi,nD,nY,lD,Z5m w t elem s hu hs A n cap k j hk hj,lB,lE]
theorem Yq{ops:Array Oper}{rest:List Oper}{op:Oper}{a:Act}{C:World->Prop}{Q:Act->Prop}(ty:TypeId)(x:Operand)(ho:op.op=.load ty x)(hgd:op.guard=none)
  (g o:Nat) (hx:a.eval x=.pointer (some ⟨g,o,none⟩)) (t:TypeId) (cs part r:List Value) (hg:∀ w,C w->Blk w g t cs) (hp:cs.drop o=part++r) (d:TypeDesc)
  (hu:P.underlying ty=some d) (hd:d.isRow=true) (hi:(P.info? ty).map (·.size)=some part.length)
  (h:wpQuiet P ops C Q rest (a.put op.dst (.agg part.toArray))):wpQuiet P ops C Q (op :: rest) a:=by
 refine Zc _ ho hgd _ (fun w hw=>?_) h;unfold execOp;simp only[ho,hx,nZ,lU,lD,lE,lB,
  n2 w g o ty part d (fun j v hv=>by have:=Z0y (hg w hw) o part r hp j v hv;rwa [Jk] at this) hu hd hi]
end
end
section
open Go.RowKit
section
variable {P:Program} (w:World)
theorem Zbz(base:Nat)(t ty e:TypeId)(i:TypeInfo)(size:Nat)(ht:P.underlying t=some (.slice e))(hi:P.info? e=some i)
  (v:Value) (n:Nat) (xs:List Value) (hown:w.ownsRow base e size v n xs) (c:Nat):(nE #[t,t] ty #[v,.slice none 0 c]).run P w=.ok v w:=by
 rcases hown.2 with ⟨rfl,rfl⟩ | ⟨g,cap,cur,rfl,_,_,hnc,_⟩
 ·simp[nE,lK ht,sizeOf,typeInfo,hi,kQ,Builtin.firstCells]
 ·simp[nE,lK ht,sizeOf,typeInfo,hi,kQ,Builtin.firstCells,hnc,storeCells]
structure InfoOf (P:Program) (e:TypeId) (z:Value) (size bytes:Nat):Prop where
 info:(P.info? e).map (fun i=>(i.zero,i.size,i.bytes))=some (some z,size,bytes)
 cells:z.cells.size=size
 pos:0<size
theorem Z5o(base:Nat)(t ty e:TypeId)(z:Value)(bytes:Nat)(size:Nat)(ht:P.underlying t=some (.slice e))(hI:InfoOf P e z size bytes)
  (v:Value) (n:Nat) (xs:List Value) (hown:w.ownsRow base e size v n xs)
  (ok:Nat->Prop) (A:Option Addr) (m c:Nat) (news:List Value) (hm:news.length=m*size) (hr:Rd w ok A news) (h1:∀ u ∈ news,u.oneCell'=true)
  (h63:n+m<=maxLen) (hbytes:(n+m)*bytes<=140737488355328) (hbase:base<=w.heap.size) :
  ∃ v' w',(nE #[t,t] ty #[v,.slice A m c]).run P w=.ok v' w'/\w'.ownsRow base e size v' (n+m) (xs++news)/\w.grownBy w' v.ownBlock /\
   (v'.ownBlock=v.ownBlock ∨ v'.ownBlock=some w.heap.size):=by
 cases hq:P.info? e with
 | none=>have:=hI.info;simp[hq] at this
 | some i =>
  have hii:=hI.info;simp only[hq,nD,lR,n3] at hii;obtain⟨hz,hsize,hby⟩:=hii;rcases A with _ | ad
  ·have hm0:m=0:=by
    rcases Nat.eq_zero_or_pos m with h0 | h0
    ·exact h0
    ·obtain⟨ad,h,_⟩:=hr (by rw[hm];exact Nat.mul_pos h0 hI.pos);cases h
   subst hm0;have hn:news=[]:=List.eq_nil_of_length_eq_zero (by simpa using hm);subst hn;exact⟨v,w,Zbz w base t ty e i size ht hq v n xs hown c,by simpa using hown,World.grownBy.refl w _,.inl rfl⟩
  ·have hcells:∀ j u,news[j]?=some u->w.cell? (ad.add j)=some u:=by
    intro j u hu;obtain⟨ad',h,_,hc⟩:=hr (by have:=(lT.1 hu).1;omega)
    injection h with h
    subst h;exact hc j u hu
   obtain⟨v',w',hrun,h2,h3,_,h5⟩:=run_append_own_at (P:=P) w base t ty e i z size bytes ht hq hz hsize hby hI.cells hI.pos v n xs hown ad m c news hm hcells h1 h63 hbytes hbase;exact⟨v',w',hrun,h2,h3,h5⟩
theorem Z5p{o:Oper}{a:Act}{K:Act->World->Prop}{Q:Exit->Act->World->Prop}(s x:Operand)(t:TypeId)
  (ho:o.op=.call { callee:=.builtin .append,args:=#[s,x],argTypes:=#[t,t] })
  (base:Nat) (e:TypeId) (z:Value) (size bytes:Nat) (ht:P.underlying t=some (.slice e)) (hI:InfoOf P e z size bytes)
  (v:Value) (n:Nat) (xs:List Value) (hs:a.eval s=v) (hown:w.ownsRow base e size v n xs)
  (ok:Nat->Prop) (A:Option Addr) (m c:Nat) (news:List Value) (hx:a.eval x=.slice A m c) (hm:news.length=m*size) (hr:Rd w ok A news) (h1:∀ u ∈ news,u.oneCell'=true)
  (h63:n+m<=maxLen) (hbytes:(n+m)*bytes<=140737488355328) (hbase:base<=w.heap.size)
  (h:∀ v' w',w'.ownsRow base e size v' (n+m) (xs++news)->w.grownBy w' v.ownBlock->(v'.ownBlock=v.ownBlock ∨ v'.ownBlock=some w.heap.size)->K (a.put o.dst v') w'):o.wp P a w K Q:=by
 obtain⟨v',w',hrun,h2,h3,h4⟩:=Z5o (P:=P) w base t o.type e z bytes size ht hI v n xs hown ok A m c news hm hr h1 h63 hbytes hbase;unfold l4 execOp;simp only[ho,resolve,invoke,builtin,lD,lE,lB,List.map_toArray,lN,kR,hs,hx,hrun];exact h v' w' h2 h3 h4
theorem Yt{ops:Array Oper}{rest:List Oper}{o:Oper}{a:Act}{Q:Exit->Act->World->Prop}(hgd:o.guard=none)(s x:Operand)(t:TypeId)
  (ho:o.op=.call { callee:=.builtin .append,args:=#[s,x],argTypes:=#[t,t] })
  (base:Nat) (e:TypeId) (z:Value) (size bytes:Nat) (ht:P.underlying t=some (.slice e)) (hI:InfoOf P e z size bytes)
  (v:Value) (n:Nat) (xs:List Value) (hs:a.eval s=v) (hown:w.ownsRow base e size v n xs)
  (ok:Nat->Prop) (A:Option Addr) (m c:Nat) (news:List Value) (hx:a.eval x=.slice A m c) (hm:news.length=m*size) (hr:Rd w ok A news) (h1:∀ u ∈ news,u.oneCell'=true)
  (h63:n+m<=maxLen) (hbytes:(n+m)*bytes<=140737488355328) (hbase:base<=w.heap.size)
  (h:∀ v' w',w'.ownsRow base e size v' (n+m) (xs++news)->w.grownBy w' v.ownBlock->(v'.ownBlock=v.ownBlock ∨ v'.ownBlock=some w.heap.size)->wpList P ops Q rest (a.put o.dst v') w'):wpList P ops Q (o :: rest) a w :=
 l7 hgd fun _ hK=>Z5p w s x t ho base e z size bytes ht hI v n xs hs hown ok A m c news hx hm hr h1 h63 hbytes hbase fun v' w' h2 h3 h4=>hK _ _ (h v' w' h2 h3 h4)
end
theorem Za{w:World}{base:Nat}{e:TypeId}{size:Nat}{v:Value}{n:Nat}{xs:List Value}(h:w.ownsRow base e size v n xs) :
  ∃ A cap,v=.slice A n cap/\n<=cap/\cap<=maxLen:=by
 rcases h.2 with ⟨rfl,rfl⟩ | ⟨g,cap,cur,rfl,_,_,h1,h2,_⟩
 ·exact⟨none,0,rfl,lP _,nF _⟩
 ·exact⟨_,cap,rfl,h1,h2⟩
theorem Yo{w w':World}{base:Nat}{e:TypeId}{size:Nat}{v:Value}{n:Nat}{xs:List Value}(h:w.ownsRow base e size v n xs)(hg:w.grownBy w' v.ownBlock)(hb:base<=w.heap.size):Below base w w' :=
 (lO _ _).grown hg hb (fun k hk=>(h.lt k hk).1)
theorem K1{w:World}{base:Nat}{e:TypeId}{n:Nat}{xs:List Value}{A:Option Addr}{cap:Nat}(h:w.ownsRow base e 1 (.slice A n cap) n xs):Rd w (base<=·) A xs:=Rd.of_own h
end
section
open Go.RowKit
def wv(x:UInt32):Int:=(x.toNat:Int)
def bv(x:UInt8):Int:=(x.toNat:Int)
abbrev W(x:UInt32):Value:=.int .u32 (wv x)
abbrev B(x:UInt8):Value:=.int .u8 (bv x)
theorem Z5q{x y:UInt8}(h:bv x=bv y):x=y:=kS.1 (by unfold bv at h;omega)
theorem Z31(n:Nat):IntKind.u32.wrap (n:Int)=((n % 4294967296:Nat):Int):=by
 simp[IntKind.wrap,kT,kU]
theorem Z5r(n:Nat):IntKind.u8.wrap (n:Int)=((n % 256:Nat):Int):=by
 simp[IntKind.wrap,kT,kU]
theorem Ok(x:UInt32):(lI 32 (wv x))=x.toBitVec:=by
 apply BitVec.eq_of_toNat_eq;have:=x.toNat_lt;simp[wv]
theorem Z13(x:UInt8):(lI 8 (bv x))=x.toBitVec:=by
 apply BitVec.eq_of_toNat_eq;have:=x.toNat_lt;simp[bv]
theorem Z5s(x y:UInt32):bits .xor .u32 (wv x) (wv y)=wv (x ^^^ y):=by
 show IntKind.u32.wrap ((lI 32 (wv x) ^^^ lI 32 (wv y)).toNat:Int)=_;rw[Ok,Ok,Z31,nG (nH _)];rfl
theorem w_and(x y:UInt32):bits .and .u32 (wv x) (wv y)=wv (x &&& y):=by
 show IntKind.u32.wrap ((lI 32 (wv x) &&& lI 32 (wv y)).toNat:Int)=_;rw[Ok,Ok,Z31,nG (nH _)];rfl
theorem w_or(x y:UInt32):bits .or .u32 (wv x) (wv y)=wv (x ||| y):=by
 show IntKind.u32.wrap ((lI 32 (wv x) ||| lI 32 (wv y)).toNat:Int)=_;rw[Ok,Ok,Z31,nG (nH _)];rfl
theorem Z5t(y:UInt32):bits .xor .u32 4294967295 (wv y)=wv (~~~ y):=by
 have h:(4294967295:Int)=wv 4294967295:=by decide
 rw[h,Z5s]
 congr 1
theorem Zc0(y:UInt32):bits .xor .u32 IntKind.u32.max (wv y)=wv (~~~ y):=Z5t y
theorem Z32(x y:UInt32):(wv x+wv y) % 4294967296=wv (x+y):=by
 unfold wv;rw[<-Int.natCast_add,UInt32.toNat_add];rfl
theorem Zc1(d x y k z:UInt32):(wv d+(wv x+wv y+wv k+wv z)) % 4294967296=wv (d+(x+y+k+z)):=by simp only[<- Z32];omega
theorem w_sum5'(x y k z u:UInt32):(wv x+wv y+wv k+wv z+wv u) % 4294967296=wv (x+y+k+z+u):=by simp only[<- Z32];omega
theorem b_and(x y:UInt8):bits .and .u8 (bv x) (bv y)=bv (x &&& y):=by
 show IntKind.u8.wrap ((lI 8 (bv x) &&& lI 8 (bv y)).toNat:Int)=_;rw[Z13,Z13,Z5r,nG (nH _)];rfl
def b2w(x:UInt8):UInt32:=n4 x.toNat
theorem Zc2(x:UInt8):(b2w x).toNat=x.toNat:=by
 have:=x.toNat_lt;unfold b2w;simp
def w2b(x:UInt32):UInt8:=lL x.toNat
def shr(x:UInt32)(n:Nat):UInt32:=n4 (x.toNat / 2 ^ n)
def shl(x:UInt32)(n:Nat):UInt32:=n4 (x.toNat*2 ^ n)
def Kc(x:UInt32)(n:Nat):UInt32:=shr x n ||| shl x (32 - n)
theorem Zc3(x:UInt32)(n:Nat):(shr x n).toNat=x.toNat / 2 ^ n:=by
 have:=x.toNat_lt;have h:x.toNat / 2 ^ n<=x.toNat:=Nat.div_le_self _ _;unfold shr;simp;omega
theorem Zc4(x:UInt32)(n:Nat):(shl x n).toNat=x.toNat*2 ^ n % 4294967296:=by
 unfold shl;simp
theorem Ol(x:UInt32)(n:Nat):wv x / (2:Int) ^ n=wv (shr x n):=by
 unfold wv;rw[Zc3];simp
theorem Z14(x:UInt32)(n:Nat):(wv x*(2:Int) ^ n) % 4294967296=wv (shl x n):=by
 unfold wv;rw[Zc4];simp
theorem Zc5(x:UInt8):bv x % 4294967296=wv (b2w x):=by
 have:=x.toNat_lt;unfold bv wv;rw[Zc2];omega
theorem Zc6(x:UInt32):wv x % 256=bv (w2b x):=by
 unfold bv wv w2b;simp
theorem shl_8(x:UInt32):wv x*256 % 4294967296=wv (shl x 8):=Z14 x 8
theorem Zc7(x:UInt32):wv x*65536 % 4294967296=wv (shl x 16):=Z14 x 16
theorem Zc8(x:UInt32):wv x*16777216 % 4294967296=wv (shl x 24):=Z14 x 24
theorem shr_3(x:UInt32):wv x / 8=wv (shr x 3):=Ol x 3
theorem shr_8(x:UInt32):wv x / 256=wv (shr x 8):=Ol x 8
theorem Zc9(x:UInt32):wv x / 1024=wv (shr x 10):=Ol x 10
theorem Zca(x:UInt32):wv x / 65536=wv (shr x 16):=Ol x 16
theorem Zcb(x:UInt32):wv x / 16777216=wv (shr x 24):=Ol x 24
end
section
section
variable {P:Program} {ops:Array Oper} {md:lG} {C:World->Prop}
def Jn:List Oper->Nat->Oper
 | [],_=>default
 | o :: _,0=>o
 | _ :: l,n+1=>Jn l n
theorem Zo(o:Oper)(l:List Oper):Jn (o :: l) 0=o:=rfl
theorem Zn(o:Oper)(l:List Oper)(n:Nat):Jn (o :: l) (n+1)=Jn l n:=rfl
theorem Gr:∀ (l:List Oper) (i:Nat) (h:i<l.length),Jn l i=l[i]
 | o :: l,0,_=>rfl
 | o :: l,n+1,h=>by rw[Zn];exact Gr l n (by simpa using h)
def Z7(l:List Oper)(is:List Nat):List Oper:=is.map (Jn l)
def K2(md:lG)(ops:Array Oper)(t0:Nat):List Nat->Bool
 | []=>true
 | i :: s=>(s++[t0]).any (fun j=>n5 md ops j i) && K2 md ops t0 s
def Ju(md:lG)(ops:Array Oper):Nat->List Nat->Bool
 | _,[]=>true
 | t0,t :: s=>n5 md ops t t0 && Ju md ops t s
structure HeadL (md:lG) (ops:Array Oper) (tl:List Nat) (listed:Array Bool):Prop where
 size:listed.size=ops.size
 closed:∀ j oj,ops[j]?=some oj->listed.getD j false=true->∀ e ∈ oj.after,lQ md e=true->listed.getD e.on false=true
 tail:∀ t ∈ tl,listed.getD t true=false
theorem HeadL.set{tl:List Nat}{i:Nat}{listed:Array Bool}(inv:HeadL md ops tl listed)(hi:i ∈ lC md ops listed)(hin:i ∉ tl):HeadL md ops tl (listed.setIfInBounds i true):=by
 obtain⟨_,oi,hoi,hall⟩:=mem_ready.1 hi;refine⟨by simp[inv.size],fun j oj hj hl e he hb=>?_,fun t ht=>by rw[l9 true (show i ≠ t from fun e=>hin (by rw[e];exact ht))];exact inv.tail t ht⟩;by_cases hij:i=j
 ·subst hij;have : oj=oi:=kV (hj.symm.trans hoi);subst this;exact getD_set_true (hall e he hb)
 ·rw[l9 false hij] at hl;exact getD_set_true (inv.closed j oj hj hl e he hb)
theorem Z5u{j i:Nat}{listed:Array Bool}(h:n5 md ops j i=true)(hun:listed.getD i true=false):j ∉ lC md ops listed:=fun hr=>by
 obtain⟨oj,hoj,e,he,hb,hon⟩:=Region.waitsFor_spec h;obtain⟨_,oj',hoj',hall⟩:=mem_ready.1 hr;have : oj=oj':=kV (hoj.symm.trans hoj');subst this;have h2:=hall e he hb;rw[hon,l8 hun] at h2;cases h2
theorem Z5v{listed:Array Bool}:∀ (tl:List Nat) (t0:Nat),Ju md ops t0 tl=true->listed.getD t0 true=false->(∀ t ∈ tl,listed.getD t true=false)->∀ t ∈ tl,t ∉ lC md ops listed
 | [],_,_,_,_,_,h=>by cases h
 | t :: s,t0,hc,h0,ht,u,hu=>by
  simp only[Ju,lF] at hc;cases hu with
  | head=>exact Z5u hc.1 h0
  | tail _ hu=>exact Z5v s t hc.2 (ht t (by simp)) (fun x hx=>ht x (by simp[hx])) u hu
theorem Gs{t0:Nat}{tl:List Nat}{listed:Array Bool}(hc:Ju md ops t0 tl=true)(inv:HeadL md ops (t0 :: tl) listed) :
  ∀ hd:List Nat,K2 md ops t0 hd=true->∀ i ∈ hd,listed.getD i true=false->∀ t ∈ t0 :: tl,t ∉ lC md ops listed
 | [],_,_,h,_,_,_=>by cases h
 | i :: s,hs,k,hk,hun,t,ht=>by
  simp only[K2,lF] at hs;cases hk with
  | tail _ hk=>exact Gs hc inv s hs.2 k hk hun t ht
  | head =>
   cases ht with
   | tail _ ht=>exact Z5v tl t0 hc (inv.tail t0 (by simp)) (fun x hx=>inv.tail x (by simp[hx])) t ht
   | head =>
    intro hr;obtain⟨j,hj,hw⟩:=List.any_eq_true.1 hs.1;obtain⟨oj,hoj,e,he,hb,hon⟩:=Region.waitsFor_spec hw;rcases List.mem_append.1 hj with hj | hj
    ·cases hl:listed.getD j false with
     | true =>
      have h2:=inv.closed j oj hoj hl e he hb;rw[hon,l8 hun] at h2;cases h2
     | false =>
      have hjs:j<listed.size:=by rw[inv.size];exact (nI.1 hoj).1
      exact Gs hc inv s hs.2 j hj (getD_in hjs hl) t0 (by simp) hr
    ·have : j=t0:=by simpa using hj
     subst this;exact Z5u hw hun hr
def Gt(P:Program)(md:lG)(ops:Array Oper)(C:World->Prop)(tl:List Nat)(L:Array Bool->Act->Prop):Nat->Array Bool->Act->Prop
 | 0,listed,a=>L listed a
 | f+1,listed,a =>
  lC md ops listed ≠ []/\∀ i ∈ lC md ops listed,i ∉ tl/\qOp P ops C i (Gt P md ops C tl L f (listed.setIfInBounds i true)) a
theorem Z5w{tl:List Nat}{g:Nat}{L:Array Bool->Act->Prop}{Q':Exit->Act->World->Prop}(hL:∀ listed a w,C w->L listed a->wpAny P md ops Q' g listed a w) :
  ∀ (f:Nat) (listed:Array Bool) (a:Act) (w:World),C w->Gt P md ops C tl L f listed a->wpAny P md ops Q' (f+g) listed a w
 | 0,listed,a,w,hw,h=>by rw[kK];exact hL _ _ _ hw h
 | f+1,listed,a,w,hw,h=>by
  rw[show f+1+g=(f+g)+1 by omega];exact⟨fun h0=>absurd h0 h.1,fun i hi=>wpOp_of_qOp hw (fun a' w' hw' h'=>Z5w hL f _ a' w' hw' h') (h.2 i hi).2⟩
theorem Zcc{t0:Nat}{tl hd:List Nat}{i:Nat}{oi:Oper}{v:Value}{L:Array Bool->Act->Prop}(hi:ops[i]?=some oi)(hsel:∀ (j:Nat) (o:Oper) cs b,ops[j]?=some o->o.op ≠ .select cs b)
  (hs:K2 md ops t0 hd=true) (hc:Ju md ops t0 tl=true) (hin:i ∈ hd)
  (hdone:∀ listed a,L listed a->∀ j ∈ lC md ops listed,j ∈ t0 :: tl) :
  ∀ (f:Nat) (listed:Array Bool) (a:Act),HeadL md ops (t0 :: tl) listed ->
   (∀ j oj,ops[j]?=some oj->j ≠ i->listed.getD j true=false->(∀ e ∈ oj.after,lQ md e=true->e.on ≠ i)->oi.apart ops oj=true) ->
   i ∈ lC md ops listed->YieldsIn P ops C oi v a ->
   Gt P md ops C (t0 :: tl) L f (listed.setIfInBounds i true) (a.put oi.dst v)->Gt P md ops C (t0 :: tl) L (f+1) listed a:=by
 intro f;induction f with
 | zero =>
  intro listed a inv _ hr hy H;have hun:=(mem_ready.1 hr).1;refine⟨fun h=>(by rw[h] at hr;cases hr),fun j hj=>?_⟩;have hjn:j ∉ t0 :: tl:=fun hm=>Gs hc inv hd hs i hin hun j hm hj;refine⟨hjn,?_⟩;by_cases hji:j=i
  ·subst hji;exact hy.qOp hi H
  ·exact absurd (hdone _ _ H j (lW hj hji)) hjn
 | succ f ih =>
  intro listed a inv hfree hr hy H;have hun:=(mem_ready.1 hr).1;refine⟨fun h=>(by rw[h] at hr;cases hr),fun j hj=>?_⟩;have hjn:j ∉ t0 :: tl:=fun hm=>Gs hc inv hd hs i hin hun j hm hj;refine⟨hjn,?_⟩;by_cases hji:j=i
  ·subst hji;exact hy.qOp hi H
  ·have h1:=(H.2 j (lW hj hji)).2;obtain⟨hjun,oj,hoj,hall⟩:=mem_ready.1 hj;have hnot:∀ e ∈ oj.after,lQ md e=true->e.on ≠ i:=fun e he hb heq=>by
    have h1:=hall e he hb;rw[heq,l8 hun] at h1;cases h1
   have h2:=qOp_put hoj (hfree j oj hoj hji hjun hnot) (fun cs b=>hsel i oi cs b hi) (fun cs b=>hsel j oj cs b hoj) hy h1;have hfree':∀ k ok,ops[k]?=some ok->k ≠ i->(listed.setIfInBounds j true).getD k true=false ->
     (∀ e ∈ ok.after,lQ md e=true->e.on ≠ i)->oi.apart ops ok=true:=fun k ok hk hki hun hno=>by
    refine hfree k ok hk hki ?_ hno;by_cases hjk:j=k
    ·subst hjk;exact hjun
    ·rw[l9 true hjk] at hun;exact hun
   refine qOp_mono (fun a' h3=>ih (listed.setIfInBounds j true) a' (inv.set hj hjn) hfree' (lW hr (Ne.symm hji)) h3.1 ?_) h2;rw[kL _ _ hji];exact h3.2
def K3(md:lG)(ops:Array Oper):List Nat->Array Bool->Bool
 | [],listed=>(lC md ops listed).isEmpty
 | k :: s,listed=>decide (lC md ops listed=[k]) && K3 md ops s (listed.setIfInBounds k true)
def U3(md:lG)(ops:Array Oper)(tl:List Nat):List Nat->Array Bool->Bool
 | [],listed=>K3 md ops tl listed
 | k :: s,listed=>(lC md ops listed).contains k && kW md ops listed k && U3 md ops tl s (listed.setIfInBounds k true)
theorem Zcd{t0:Nat}{tl:List Nat}{listed:Array Bool}(h:K3 md ops (t0 :: tl) listed=true):∀ j ∈ lC md ops listed,j ∈ t0 :: tl:=by
 intro j hj;simp only[K3,lF,decide_eq_true_eq] at h;rw[h.1] at hj;have : j=t0:=by simpa using hj
 simp[this]
theorem Z5x{Q':Exit->Act->World->Prop}:∀ (is:List Nat) (l:List Oper) (listed:Array Bool) (a:Act) (w:World),is.map (ops[·]?)=l.map some ->
  K3 md ops is listed=true->wpList P ops Q' l a w->wpAny P md ops Q' is.length listed a w
 | [],l,_,_,_,hl,hB,h=>by
  have : l=[]:=by simpa using hl.symm
  subst this;exact⟨by simpa[K3] using hB,h⟩
 | k :: s,l,listed,a,w,hl,hB,h=>by
  obtain⟨o,l',rfl⟩:∃ o l',l=o :: l':=by
   cases l with
   | nil=>simp at hl
   | cons o l'=>exact⟨o,l',rfl⟩
  simp only[lN,n6] at hl;simp only[K3,lF,decide_eq_true_eq] at hB;refine⟨fun h1=>(by rw[hB.1] at h1;cases h1),fun i hi=>?_⟩;rw[hB.1] at hi;have hik:i=k:=by simpa using hi
  subst hik;have hw:wpOp P ops Q' i (wpList P ops Q' l') a w:=by unfold wpOp;simp only[hl.1];exact h
  exact wpOp_mono (fun a' w' h'=>Z5x s l' _ a' w' hl.2 hB.2 h') hw
theorem Z5y{t0:Nat}{tl hd:List Nat}{Lq:Act->Prop}(hsel:nA ops=true)(hs:K2 md ops t0 hd=true)(hc:Ju md ops t0 tl=true) :
  ∀ (is:List Nat) (l:List Oper) (listed:Array Bool) (a:Act),(∀ i ∈ is,i ∈ hd)->(∀ i ∈ is,i ∉ t0 :: tl)->is.map (ops[·]?)=l.map some->HeadL md ops (t0 :: tl) listed ->
  U3 md ops (t0 :: tl) is listed=true->wpQuiet P ops C Lq l a ->
  Gt P md ops C (t0 :: tl) (fun listed' a'=>K3 md ops (t0 :: tl) listed'=true/\Lq a') is.length listed a
 | [],l,listed,a,_,_,hl,_,hB,h=>by
  have : l=[]:=by simpa using hl.symm
  subst this;exact⟨by simpa[U3] using hB,h⟩
 | k :: s,l,listed,a,hsub,hnt,hl,inv,hB,h=>by
  obtain⟨o,l',rfl⟩:∃ o l',l=o :: l':=by
   cases l with
   | nil=>simp at hl
   | cons o l'=>exact⟨o,l',rfl⟩
  simp only[lN,n6] at hl;simp only[U3,lF] at hB;obtain⟨⟨hr,hf⟩,hB'⟩:=hB;have hr':k ∈ lC md ops listed:=by simpa using hr
  have hst:qOp P ops C k (wpQuiet P ops C Lq l') a:=by unfold qOp;simp only[hl.1];exact h
  obtain⟨v,hy,hK⟩:=nT hl.1 hst;exact Zcc hl.1 (kM hsel) hs hc (hsub k (by simp)) (fun listed' a' hL=>Zcd hL.1) s.length listed a inv (kN hl.1 hf) hr' hy
   (Z5y hsel hs hc s l' _ _ (fun i hi=>hsub i (by simp[hi])) (fun i hi=>hnt i (by simp[hi])) hl.2 (inv.set hr' (hnt k (by simp))) hB' hK)
def Om:Op->Bool
 | .move _ | .nilCheck _ | .fieldAddr .. | .field .. | .binOp .. | .unOp .. | .indexAddr .. | .index .. | .slice .. | .makeInterface .. | .convert .. | .extract .. => true
 | _=>false
theorem Zce{o:Oper}{a:Act}{w:World}{x:Operand}(hop:o.op=.nilCheck x):(∃ u w',(execOp a.eval o).run P w=.ok (.value u) w') ∨ (∃ u w',(execOp a.eval o).run P w=.halt u w'):=by
 unfold execOp;rw[hop];dsimp only;split
 ·exact .inr ⟨_,_,rfl⟩
 ·exact .inr ⟨_,_,rfl⟩
 ·exact .inr ⟨_,_,rfl⟩
 ·split
  ·exact .inr ⟨_,_,rfl⟩
  ·rename_i name first captured _ _ t w1 _
   simp only[lD];generalize hr:Sem.run P _ w=r;cases r with
   | halt u w'=>exact .inr ⟨u,w',rfl⟩
   | ok p w2 =>
    simp only[lB];generalize hr2:Sem.run P (nilAhead _ _ _ _) w2=r2;cases r2 with
    | halt u w'=>exact .inr ⟨u,w',rfl⟩
    | ok p w2 =>
     simp only[lB];split
     ·exact .inr ⟨_,_,rfl⟩
     ·exact .inl ⟨_,_,rfl⟩
  ·exact .inl ⟨_,_,rfl⟩
 ·exact .inl ⟨_,_,rfl⟩
theorem Z5z{o:Oper}{a:Act}{v:Value}{C:World->Prop}{w:World}(ho:Om o.op=true)(h:o.quietAt P a C w v):(execOp a.eval o).run P w=.ok (.value v) w:=by
 have key:(∃ x:Sem Value,execOp a.eval o=(do let y <- x;pure (.value y))) ∨ (∃ u w',(execOp a.eval o).run P w=.ok (.value u) w') ∨ (∃ u w',(execOp a.eval o).run P w=.halt u w'):=by
  cases hop:o.op
  all_goals rw[hop] at ho
  all_goals first
   | (exact .inl ⟨_,by unfold execOp;rw[hop]⟩)
   | (exact .inl ⟨_,by unfold execOp;rw[hop];rfl⟩)
   | (exact .inr (Zce hop))
   | (exact .inr (.inl ⟨_,_,by unfold execOp;rw[hop];rfl⟩))
   | (exact absurd ho (by simp[Om]))
 rcases key with ⟨x,hx⟩ | ⟨u,w',hu⟩ | ⟨u,w',hu⟩
 ·unfold l5 at h;rw[hx,lD] at h ⊢;cases hr:x.run P w with
  | ok y w' =>
   rw[hr] at h;simp only[lB,lE,nJ] at h ⊢;rw[h.1,h.2]
  | halt y w' =>
   rw[hr] at h;simp[Result.andThen,nJ] at h
 ·unfold l5 at h;rw[hu] at h ⊢;simp only[nJ] at h;rw[h.1,h.2]
 ·unfold l5 at h;rw[hu] at h;simp[nJ] at h
def On(md:lG)(ops:Array Oper)(hd tl:List Nat):List Nat->Array Bool->Bool
 | [],listed=>U3 md ops tl hd listed
 | k :: s,listed=>(lC md ops listed).contains k && kW md ops listed k && ((ops[k]?).map (Om ·.op)).getD false && On md ops hd tl s (listed.setIfInBounds k true)
def Z60(md:lG)(ops:Array Oper)(pre hd:List Nat)(t0:Nat)(tl:List Nat):Bool :=
 nA ops && K2 md ops t0 hd && Ju md ops t0 tl && (decide (pre.length+hd.length+(tl.length+1)=ops.size)) && (hd.all fun i=>!(t0 :: tl).contains i) && (pre.all fun i=>!(t0 :: tl).contains i) && On md ops hd (t0 :: tl) pre (nV ops.size false)
theorem Km{l:List Oper}{is:List Nat}(h:∀ i ∈ is,i<l.length):is.map (l.toArray[·]?)=(Z7 l is).map some:=by
 unfold Z7;rw[n7];refine kX fun i hi=>?_;simp[h i hi,Gr l i (h i hi)]
theorem Z33{hd tl:List Nat}:∀ (pre:List Nat) (listed:Array Bool),On md ops hd tl pre listed=true->(∀ i ∈ pre,i<ops.size)/\∃ listed',U3 md ops tl hd listed'=true
 | [],listed,h=>⟨by simp,listed,h⟩
 | k :: s,listed,h=>by
  simp only[On,lF] at h;obtain⟨h1,h2⟩:=Z33 s _ h.2;refine⟨fun i hi=>?_,h2⟩;cases hi with
  | head =>
   have : k ∈ lC md ops listed:=by simpa using h.1.1.1
   obtain⟨_,o,ho,_⟩:=mem_ready.1 this;exact (nI.1 ho).1
  | tail _ hi=>exact h1 i hi
theorem Z61{i:Nat}{listed:Array Bool}(h:i ∈ lC md ops listed):i<ops.size:=by
 obtain⟨_,o,ho,_⟩:=mem_ready.1 h;exact (nI.1 ho).1
theorem Z62:∀ (tl:List Nat) (listed:Array Bool),K3 md ops tl listed=true->∀ i ∈ tl,i<ops.size
 | [],_,_,_,h=>by cases h
 | k :: s,listed,h,i,hi=>by
  simp only[K3,lF,decide_eq_true_eq] at h;cases hi with
  | head=>exact Z61 (listed:=listed) (by rw[h.1];simp)
  | tail _ hi=>exact Z62 s _ h.2 i hi
theorem Z34{tl:List Nat}:∀ (hd:List Nat) (listed:Array Bool),U3 md ops tl hd listed=true->(∀ i ∈ hd,i<ops.size)/\(∀ i ∈ tl,i<ops.size)
 | [],listed,h=>⟨by simp,Z62 tl listed h⟩
 | k :: s,listed,h=>by
  simp only[U3,lF] at h;obtain⟨h1,h2⟩:=Z34 s _ h.2;refine⟨fun i hi=>?_,h2⟩;cases hi with
  | head=>exact Z61 (listed:=listed) (by simpa using h.1.1)
  | tail _ hi=>exact h1 i hi
theorem Z63{Q:Exit->Act->World->Prop}{t0:Nat}{hd tl:List Nat}{w:World}{l:List Oper}(hops:ops=l.toArray)(hsel:nA ops=true)(hs:K2 md ops t0 hd=true)(hc:Ju md ops t0 tl=true)
  (hnt:∀ i ∈ hd,i ∉ t0 :: tl) (hQ:∀ c d v a w,Q (.panic c) (Act.put a d v) w->Q (.panic c) a w) (hC:C w) :
  ∀ (is:List Nat) (lp:List Oper) (listed:Array Bool) (a:Act),(∀ i ∈ is,i ∉ t0 :: tl)->is.map (ops[·]?)=lp.map some->HeadL md ops (t0 :: tl) listed->On md ops hd (t0 :: tl) is listed=true ->
   wpQuiet P ops (fun _=>True) (fun a1=>wpQuiet P ops C (fun a2=>∀ w',C w'->wpList P ops Q (Z7 l (t0 :: tl)) a2 w') (Z7 l hd) a1) lp a ->
   wpAny P md ops Q (is.length+(hd.length+(tl.length+1))) listed a w
 | [],lp,listed,a,_,hl,inv,hB,h=>by
  have : lp=[]:=by simpa using hl.symm
  subst this;obtain⟨hlt1,hlt2⟩:=Z34 hd listed hB;have hm1:hd.map (ops[·]?)=(Z7 l hd).map some:=by rw[hops];exact Km (fun i hi=>by have:=hlt1 i hi;rw[hops] at this;simpa using this)
  have hm2:(t0 :: tl).map (ops[·]?)=(Z7 l (t0 :: tl)).map some:=by rw[hops];exact Km (fun i hi=>by have:=hlt2 i hi;rw[hops] at this;simpa using this)
  have H:=Z5y (C:=C) (md:=md) hsel hs hc hd (Z7 l hd) listed a (fun _ h=>h) hnt hm1 inv hB h;have:=Z5w (Q':=Q) (g:=tl.length+1) (fun listed a' w' hw' hL=>by
   exact Z5x (md:=md) (Q':=Q) (t0 :: tl) (Z7 l (t0 :: tl)) listed a' w' hm2 hL.1 (hL.2 w' hw')) _ _ _ _ hC H
  simpa using this
 | k :: s,lp,listed,a,hks,hl,inv,hB,h=>by
  obtain⟨o,l',rfl⟩:∃ o l',lp=o :: l':=by
   cases lp with
   | nil=>simp at hl
   | cons o l'=>exact⟨o,l',rfl⟩
  simp only[lN,n6] at hl;simp only[On,lF] at hB;obtain⟨⟨⟨hr,hf⟩,hp⟩,hB'⟩:=hB;rw[hl.1] at hp;have hp':Om o.op=true:=by simpa using hp
  have hst:qOp P ops (fun _=>True) k (wpQuiet P ops (fun _=>True) (fun a1=>wpQuiet P ops C (fun a2=>∀ w',C w'->wpList P ops Q (Z7 l (t0 :: tl)) a2 w') (Z7 l hd) a1) l') a:=by unfold qOp;simp only[hl.1];exact h
  obtain⟨v,hy,hK⟩:=nT hl.1 hst;have hy':Yields P ops o v a:=by
   rcases hy with ⟨hw,hv⟩ | ⟨hw,rfl⟩
   ·exact .inl ⟨hw,fun w=>Z5z hp' (hv w trivial)⟩
   ·exact .inr ⟨hw,rfl⟩
  have hr':k ∈ lC md ops listed:=by simpa using hr
  rw[show (k :: s).length+(hd.length+(tl.length+1))=(s.length+(hd.length+(tl.length+1)))+1 by simp;omega];exact wpAny_take hl.1 hsel hf hr (fun c a w h=>hQ c _ _ a w h) hy'
   (Z63 hops hsel hs hc hnt hQ hC s l' _ _ (fun i hi=>hks i (by simp[hi])) hl.2 (inv.set hr' (hks k (by simp))) hB' hK)
theorem Z64{id:Nat}{Q:Exit->Act->World->Prop}{a:Act}{w:World}{l:List Oper}(pre hd:List Nat)(t0:Nat)(tl:List Nat)(hm:P.follows .mixedOrders=true)(hB:Z60 .any l.toArray pre hd t0 tl=true)
  (hQ:∀ c d v a w,Q (.panic c) (Act.put a d v) w->Q (.panic c) a w) (hC:C w.drew)
  (h:wpQuiet P l.toArray (fun _=>True) (fun a1=>wpQuiet P l.toArray C (fun a2=>∀ w',C w'->wpList P l.toArray Q (Z7 l (t0 :: tl)) a2 w') (Z7 l hd) a1) (Z7 l pre) a):(nB id l.toArray true).wp P Q a w:=by
 simp only[Z60,lF,decide_eq_true_eq] at hB;obtain⟨⟨⟨⟨⟨⟨hsel,hs⟩,hc⟩,hlen⟩,hn1⟩,hn2⟩,hpre⟩:=hB;have inv0:HeadL .any l.toArray (t0 :: tl) (nV l.toArray.size false):=by
  refine⟨by simp,fun j oj _ hl=>(by rw[nC] at hl;cases hl),fun t ht=>getD_in ?_ (nC _ _)⟩;obtain⟨_,listed',hh⟩:=Z33 pre _ hpre;have:=(Z34 hd listed' hh).2 t ht;simpa using this
 have hm1:pre.map (l.toArray[·]?)=(Z7 l pre).map some:=Km (fun i hi=>by have:=(Z33 pre _ hpre).1 i hi;simpa using this);refine wp_region_any hm ?_;have:=Z63 (C:=C) (md:=.any) (l:=l) (w:=w.drew) rfl hsel hs hc (fun i hi=>by have:=kY.1 hn1 i hi;simpa using this) hQ hC pre (Z7 l pre) _ a (fun i hi=>by have:=kY.1 hn2 i hi;simpa using this) hm1 inv0 hpre h;rw[show pre.length+(hd.length+(tl.length+1))=l.toArray.size by omega] at this;exact this
end
end
section
open Go.RowKit
section
variable {P:Program}
theorem Zcf(xs:List UInt8):(xs.map bv).map (fun n=>lL n.toNat)=xs:=by
 rw[n7]
 conv=>rhs;rw[<-List.map_id xs]
 refine kX fun x _=>?_;simp[bv]
theorem Z65(w:World){ok:Nat->Prop}(src e dst:TypeId)(hs:P.underlying src=some (.slice e))(he:P.underlying e=some (.int .u8))(hd:P.underlying dst=some .string)(A:Option Addr)(xs:List UInt8)(cap:Nat)(hr:Rd w ok A (xs.map B)) :
  (convert src dst (.slice A xs.length cap)).run P w=.ok (.string ⟨xs.toArray⟩) w:=by
 cases A with
 | none =>
  have : xs=[]:=by
   cases xs with
   | nil=>rfl
   | cons x xs=>obtain⟨_,h,_⟩:=hr (by simp);cases h
  subst this;exact run_convert_bytes_nil (P:=P) w src e hs he _ cap dst hd
 | some ad =>
  have hl:(loadCells ad xs.length).run P w=.ok ((xs.map bv).map (nK .u8)).toArray w:=by
   have:=run_loadCells_list (P:=P) w ad ((xs.map bv).map (nK .u8)) (fun j v hv=>by
    have hv':(xs.map B)[j]?=some v:=by rw[n7] at hv;exact hv
    obtain⟨ad',h,_,hc⟩:=hr (by have:=(lT.1 hv').1;omega)
    injection h with h
    subst h;exact hc j v hv')
   simpa using this
  rw[run_convert_bytes_string w src dst e _ _ cap hs he hd,run_bytesToString w _ _ cap _ hl,foldl_push_bytes,Zcf];simp[ByteArray.empty,ByteArray.emptyWithCapacity];rfl
theorem Qf{ops:Array Oper}{rest:List Oper}{o:Oper}{a:Act}{w:World}{Q:Exit->Act->World->Prop}{ok:Nat->Prop}(hgd:o.guard=none)(src dst:TypeId)(x:Operand)(ho:o.op=.convert src dst x)
  (e:TypeId) (hs:P.underlying src=some (.slice e)) (he:P.underlying e=some (.int .u8)) (hd:P.underlying dst=some .string) (A:Option Addr) (xs:List UInt8) (cap:Nat) (hx:a.eval x=.slice A xs.length cap) (hr:Rd w ok A (xs.map B))
  (h:wpList P ops Q rest (a.put o.dst (.string ⟨xs.toArray⟩)) w):wpList P ops Q (o :: rest) a w:=by
 refine Y2 _ ho hgd _ ?_ h;simp only[execOp,ho,hx,lD,Z65 w src e dst hs he hd A xs cap hr,lB,lE]
theorem Gu{ops:Array Oper}{rest:List Oper}{o:Oper}{a:Act}{C:World->Prop}{Q:Act->Prop}{ok:Nat->Prop}(src dst:TypeId)(x:Operand)(ho:o.op=.convert src dst x)(hgd:o.guard=none)
  (e:TypeId) (hs:P.underlying src=some (.slice e)) (he:P.underlying e=some (.int .u8)) (hd:P.underlying dst=some .string) (A:Option Addr) (xs:List UInt8) (cap:Nat) (hx:a.eval x=.slice A xs.length cap) (hr:∀ w,C w->Rd w ok A (xs.map B))
  (h:wpQuiet P ops C Q rest (a.put o.dst (.string ⟨xs.toArray⟩))):wpQuiet P ops C Q (o :: rest) a:=by
 refine Zc _ ho hgd _ (fun w hw=>?_) h;simp only[execOp,ho,hx,lD,Z65 w src e dst hs he hd A xs cap (hr w hw),lB,lE]
end
end
section
open Go.RowKit
def Xc(W:World):Type:={ x:World // Below W.heap.size W x }
theorem Qr(W:World):Nonempty (Xc W):=⟨⟨W,lO _ _⟩⟩
section
variable {P:Program}
theorem Kn{id:Nat}{Q:Exit->Act->World->Prop}{a:Act}{w:World}{l:List Oper}(hm:P.follows .mixedOrders=true)(hB:Region.lexB .any l.toArray=true)
  (h:wpQuiet P l.toArray (fun w'=>∃ s:Xc w,w'=s.1) (fun a'=>∀ w',(∃ s:Xc w,w'=s.1)->Q .normal a' w') l a):(nB id l.toArray true).wp P Q a w :=
 wp_region_quiet (C:=fun w'=>∃ s:Xc w,w'=s.1) hm hB ⟨⟨w.drew,(lO _ _).drew⟩,rfl⟩ (by simpa using h)
theorem Vj{f:FuncId}{args:Array Value}{W:World}{v:Value}(s:Xc W)(h:Calls P f args s.1 fun e w'=>e=.returned v/\Below s.1.heap.size s.1 w') :
  Calls P f args s.1 fun e w''=>e=.returned v/\∃ s':Xc W,w''=s'.1 :=
 h.mono fun _ w' ⟨he,hb⟩=>⟨he,⟨w',s.2.trans (hb.mono s.2.size)⟩,rfl⟩
theorem Z66{W:World}{g:Nat}{t:TypeId}{cs:List Value}(h:Blk W g t cs)(s:Xc W):Blk s.1 g t cs:=h.below s.2 h.lt
end
end
end
section
set_option maxRecDepth 100000
set_option maxHeartbeats 1000000
open Go.Lib renaming hid → iD
open Go.Proofs.Tryz
section
open Go.RowKit
theorem Y5(l:List UInt8):∀ v ∈ l.map B,v.oneCell'=true:=by
 intro v hv;obtain⟨x,_,rfl⟩:=n8.1 hv;rfl
def Z2:List Value:=nL 32 (B 0)
theorem Z35:(lA.info? 59).map (fun i=>(i.zero,i.size))=some (some (.agg Z2.toArray),32):=by kernel_rfl
theorem Z15:InfoOf lA 5 (B 0) 1 1:=⟨by kernel_rfl,rfl,by decide⟩
end
section
open Go.RowKit
def Z67:List UInt8:=[48,49,50,51,52,53,54,55,56,57,97,98,99,100,101,102]
def U4(n:Nat):UInt8:=Z67.getD n 0
def Jc(d:List UInt8):List UInt8:=d.flatMap fun x=>[U4 (x.toNat / 16),U4 (x.toNat % 16)]
def Z16:ByteArray:=⟨Z67.toArray⟩
theorem hi_eq(x:UInt8):bv x / 16=((x.toNat / 16:Nat):Int):=by unfold bv;omega
theorem lo_eq(x:UInt8):bits .and .u8 (bv x) 15=((x.toNat % 16:Nat):Int):=by
 have h:(15:Int)=bv 15:=by decide
 rw[h,b_and];unfold bv;rw[UInt8.toNat_and];exact congrArg _ (Nat.and_two_pow_sub_one_eq_mod x.toNat 4)
theorem Zcg(n:Nat)(hn:n<16)(w:World):(n9 9 (.string Z16) (.int .u8 (n:Int))).run lA w=.ok (B (U4 n)) w:=by
 obtain rfl | rfl | rfl | rfl | rfl | rfl | rfl | rfl | rfl | rfl | rfl | rfl | rfl | rfl | rfl | rfl:n=0 ∨ n=1 ∨ n=2 ∨ n=3 ∨ n=4 ∨ n=5 ∨ n=6 ∨ n=7 ∨ n=8 ∨ n=9 ∨ n=10 ∨ n=11 ∨ n=12 ∨ n=13 ∨ n=14 ∨ n=15:=by omega
 all_goals kernel_rfl
theorem Zch(d:List UInt8)(hd:d.length=32)(k:Nat)(hk:k<32)(w:World):(n9 59 (.agg (d.map B).toArray) (.int .i64 (k:Int))).run lA w=.ok (B (d.getD k 0)) w:=by
 have h1:(sizeOf 5).run lA w=.ok 1 w:=by kernel_rfl
 simp[n9,asIntOf,lK underlying59,h1,part,hd,hk]
theorem Z68{ops:Array Oper}{rest:List Oper}{o:Oper}{a:Act}{C:World->Prop}{Q:Act->Prop}(y:Operand)(ho:o.op=.index 9 (.const (.string Z16)) y)(hgd:o.guard=none)
  (n:Nat) (hn:n<16) (hy:a.eval y=.int .u8 (n:Int)) (h:wpQuiet lA ops C Q rest (a.put o.dst (B (U4 n)))):wpQuiet lA ops C Q (o :: rest) a:=by
 refine Zc _ ho hgd _ (fun w _=>?_) h;have e:a.eval (.const (.string Z16))=.string Z16:=rfl;simp only[execOp,ho,e,hy,lD,Zcg n hn w,lB,lE]
theorem Zci(d:List UInt8)(k:Nat)(hk:k<d.length):Jc (d.take (k+1))=Jc (d.take k)++[U4 ((d.getD k 0).toNat / 16),U4 ((d.getD k 0).toNat % 16)]:=by
 rw[List.take_succ_eq_append_getElem hk];unfold Jc;rw[List.flatMap_append];simp[hk]
theorem Gv(d:List UInt8):(Jc d).length=2*d.length:=by
 induction d with
 | nil=>rfl
 | cons x d ih=>simp only[Jc,List.flatMap_cons,lY,lH,List.length_nil] at ih ⊢;omega
attribute [local go_sem] hi_eq lo_eq
theorem Z69(d:List UInt8)(hd:d.length=32)(w:World) :
  Calls lA 191 #[.agg (d.map B).toArray] w fun e w'=>e=.returned (.string ⟨(Jc d).toArray⟩)/\Below w.heap.size w w':=by
 have hsz0:(lA.info? 59).map (·.size)=some (d.map B).length:=by rw[lZ,hd];kernel_rfl
 replace hsz0:=iD hsz0;replace hd:=iD hd;go_enter func191,ntmps191;go_wp2_with (refine Zy rfl 59 (.tmp 1) rfl w.heap.size rfl 59 (d.map B) (Blk.new_at rfl) _ underlying59 rfl hsz0.out ?_);go_loopw [7,3] (fun i v wr=>∃ k:Nat,k<=32/\i=.int .i64 (k:Int)/\wr.ownsRow (w.heap.size+1) 5 1 v (Jc (d.take k)).length ((Jc (d.take k)).map B)/\Below w.heap.size w wr/\w.heap.size+1<=wr.heap.size) (fun i _ _=>32 - (intOf i).toNat)
 case atStart=>exact⟨0,by omega,rfl,World.ownsRow_nil _ _ _ _,bL,by simp⟩
 case round =>
  obtain⟨k,hk,rfl,hown,hb,hsz⟩:=hrel;obtain⟨ys,hys⟩:∃ ys,ys=Jc (d.take k):=⟨_,rfl⟩;rw[<-hys] at hown;obtain⟨A,cap,rfl,hcap,hcap2⟩:=Za hown;have hyl:ys.length<=64:=by rw[hys,Gv,kZ];omega
  replace hys:=iD hys;by_cases hlt:k<32
  ·obtain⟨x,hx⟩:∃ x,x=d.getD k 0:=⟨_,rfl⟩;have hidx:=Zch d hd.out k hlt;rw[<-hx] at hidx;replace hx:=iD hx;have hxlt:=x.toNat_lt;go_wp2;refine Z64 (C:=fun w'=>∃ n,w'=wr.drewN n) [0,1,2,3,4,5,6] [] 7 [8,9] (by kernel_rfl) (by kernel_rfl) (fun _ d _ _ _ h=>by cases d <;> exact h) ⟨1,rfl⟩ ?_;simp only[Z7,lN,kR,Zo,Zn];repeat (first
    | (refine Z68 (.tmp 12) rfl rfl (x.toNat / 16) (by omega) ?_ ?_;exact congrArg (nK .u8) (show ((x.toNat:Int) / 16)=((x.toNat / 16:Nat):Int) by omega);go_frame)
    | (refine Z68 (.tmp 15) rfl rfl (x.toNat % 16) (by omega) ?_ ?_;exact congrArg (nK .u8) (show ((x.toNat:Int) % 16)=((x.toNat % 16:Nat):Int) by omega);go_frame)
    | go_big_quiet_step (fail))
   refine nM ?_;refine nM ?_;rintro _ ⟨nq,rfl⟩;replace hown:(wr.drewN nq).ownsRow (w.heap.size+1) 5 1 (.slice A ys.length cap) ys.length (ys.map B):=hown;replace hb:=kA hb nq;have hsz2:(wr.drewN nq).heap.size=wr.heap.size:=rfl;rw[<-hsz2] at hsz;clear hsz2;generalize wr.drewN nq=wr at hown hb hsz ⊢;go_wp2_with (at_builtin;refine Yt _ rfl (.tmp 10) (.tmp 17) 57 rfl (w.heap.size+1) 5 (B 0) 1 1 underlying57 Z15 (.slice A ys.length cap) ys.length (ys.map B) rfl (hown.alloc _) (· = wr.heap.size) (some ⟨wr.heap.size,0,none⟩) 2 2 [B (U4 (x.toNat / 16)),B (U4 (x.toNat % 16))] rfl rfl (Rd.of_blk (r:=[]) (Blk.new_at rfl) rfl rfl) (by simp[Value.oneCell']) (by unfold maxLen;omega) (by omega) (by simp;omega) ?_;intro v' w' hown' hg' _);go_roundw
   case rel =>
    refine⟨k+1,by omega,by go_num,?_,?_,?_⟩
    ·rw[Zci d k (by rw[hd.out];exact hlt),<-hx.out,<-hys.out,lY,List.map_append];exact hown'
    ·exact (hb.alloc (by omega) _).trans ((Yo (hown.alloc _) hg' (by simp;omega)).mono (by omega))
    ·have:=hg'.size;simp at this;omega
   case measure=>simp[intOf];omega
  ·obtain rfl:k=32:=by omega
   have hfin:ys=Jc d:=by rw[hys.out,List.take_of_length_le (by rw[hd.out];omega)]
   have hrd:=K1 hown;go_wp2_with (refine Qf rfl 57 9 (.tmp 20) rfl 5 underlying57 underlying5 underlying9 A ys cap rfl hrd ?_);go_ret;exact⟨rfl,hb⟩
end
section
open Go.RowKit
def Z6a(c:UInt8):Nat:=if 48<=c/\c<=57 then c.toNat - 48 else if 97<=c/\c<=102 then c.toNat - 97+10 else 16
def Z36(l:List UInt8):Nat->List UInt8
 | 0=>nL 32 0
 | k+1=>(Z36 l k).set (k / 2) ((Z36 l k).getD (k / 2) 0*16+lL (Z6a (l.getD k 0)))
def pok(l:List UInt8):Bool:=decide (l.length=64) && l.all (fun c=>decide (Z6a c<16))
def pd(l:List UInt8):List UInt8:=if pok l then Z36 l 64 else nL 32 0
theorem Kd{P:Program}{fn:Func}{R:Ending->World->Prop}{a:Act}{w:World}{p u:Tmp}{ty:TypeId}(hres:fn.results=#[.cell p ty,.tmp u])(g:Nat)(t:TypeId)(cs:List Value)(d:TypeDesc)(v2:Value)
  (hp:a.tmps.getD p undef=.pointer (some ⟨g,0,none⟩)) (hv:a.tmps.getD u undef=v2) (hg:Blk w g t cs) (hu:P.underlying ty=some d) (hd:(match d with | .struct _ | .array _ _=>true | _=>false)=true)
  (hi:(P.info? ty).map (·.size)=some cs.length) (hdef:a.defers=[]) (hR:R (.returned (.tuple #[.agg cs.toArray,v2])) w):bodyPost P fn R .ret a w:=by
 refine bodyPost_ret ?_ hdef hR;rw[results_cell_tmp hres,hp,hv];have h1:(asAddr (.pointer (some ⟨g,0,none⟩))).run P w=.ok (⟨g,0,none⟩:Addr) w:=by simp[asAddr]
 rw[h1,lB,run_loadVar_row w g t ty cs.toArray (0,0) d hg hu hd (by simpa using hi),lB]
end
section
end
section
open Go.RowKit
section
variable {P:Program}
theorem Z6b(w:World)(e:TypeId)(k:IntKind)(he:P.underlying e=some (.int k))(cs:List Value)(i:Nat)(v:Value)(h:cs[i]?=some v):(part e cs.toArray i).run P w=.ok v w:=by
 simp[part,isAgg,lK he,h]
theorem Z17(x y:UInt8):(bv x == bv y)=(x == y):=by
 rw[Bool.eq_iff_iff,beq_iff_eq,beq_iff_eq];exact⟨Z5q,fun h=>by rw[h]⟩
theorem Z18(w:World)(D:Nat)(t e:TypeId)(n:Nat)(ht:P.underlying t=some (.array n e))(he:P.underlying e=some (.int .u8))(hs:(P.info? e).map (·.size)=some 1)(xs ys:List UInt8)(hx:xs.length=n)(hy:ys.length=n)
  (hin:∀ a b:UInt8,(l0 D e (B a) (B b)).run P w=.ok (a == b) w) :
  (l0 (D+1) t (.agg (xs.map B).toArray) (.agg (ys.map B).toArray)).run P w=.ok (xs == ys) w:=by
 cases hq:P.info? e with
 | none=>simp[hq] at hs
 | some inf =>
  have hi:inf.size=1:=by simpa[hq] using hs
  have hsz:(sizeOf e).run P w=.ok 1 w:=by simp[sizeOf,typeInfo,hq,hi]
  simp only[l0,lD,lK ht,lB,hsz,Std.Legacy.Range.forIn_eq_forIn_range',Std.Legacy.Range.size];have e0:(xs == ys)=(xs.drop 0 == ys.drop 0):=by simp
  rw[e0];have e1:(n - 0+1 - 1) / 1=n:=by omega
  rw[e1];have him:0+n=xs.length:=by omega
  have hiy:0+n=ys.length:=by omega
  clear hx hy ht e0 e1;generalize (0:Nat)=i at him hiy ⊢;induction n generalizing i with
  | zero =>
   have h1:xs.drop i=[]:=k4 (by omega);have h2:ys.drop i=[]:=k4 (by omega);rw[h1,h2];simp
  | succ m ih =>
   have hxi:i<xs.length:=by omega
   have hyi:i<ys.length:=by omega
   have px:=Z6b (P:=P) w e .u8 he (xs.map B) i (B xs[i]) (by simp[hxi]);have py:=Z6b (P:=P) w e .u8 he (ys.map B) i (B ys[i]) (by simp[hyi]);have he2:=hin xs[i] ys[i];simp only[List.range'_succ,List.forIn_cons,Nat.mul_one,lD,px,py,lB,he2,Sem.run_ite];rw[k5 hxi,k5 hyi];cases hb:(xs[i] == ys[i]) with
   | true =>
    simp only[Bool.not_true,Bool.false_eq_true,if_false,lE,lB,List.cons_beq_cons,hb,Bool.true_and];have:=ih (i+1) (by omega) (by omega);simp only[Nat.mul_one] at this;exact this
   | false =>
    simp only[Bool.not_false,if_true,lE,lB,List.cons_beq_cons,hb,Bool.false_and]
theorem Zcj(w:World)(t e:TypeId)(n:Nat)(ht:P.underlying t=some (.array n e))(he:P.underlying e=some (.int .u8))(hs:(P.info? e).map (·.size)=some 1)(xs ys:List UInt8)(hx:xs.length=n)(hy:ys.length=n) :
  (binOp .eql t (.agg (xs.map B).toArray) (.agg (ys.map B).toArray)).run P w=.ok (.bool (xs == ys)) w:=by
 rw[run_eql_struct,Z18 (P:=P) w 9999 t e n ht he hs xs ys hx hy (fun a b=>by rw[run_equalIn_int (P:=P) w 9998 e .u8 .u8 (bv a) (bv b) he,Z17])];rfl
theorem Zck(w:World)(t e:TypeId)(n:Nat)(ht:P.underlying t=some (.array n e))(he:P.underlying e=some (.int .u8))(hs:(P.info? e).map (·.size)=some 1)(xs ys:List UInt8)(hx:xs.length=n)(hy:ys.length=n) :
  (binOp .neq t (.agg (xs.map B).toArray) (.agg (ys.map B).toArray)).run P w=.ok (.bool (!(xs == ys))) w:=by
 rw[run_neq_struct,Z18 (P:=P) w 9999 t e n ht he hs xs ys hx hy (fun a b=>by rw[run_equalIn_int (P:=P) w 9998 e .u8 .u8 (bv a) (bv b) he,Z17])];rfl
end
theorem Z6c(w:World){o:Oper}{a:Act}{x y:Operand}{yt:TypeId}(ho:o.op=.binOp .eql 59 x y yt)(xs ys:List UInt8)(hxe:a.eval x=.agg (xs.map B).toArray)(hye:a.eval y=.agg (ys.map B).toArray)(hx:xs.length=32)(hy:ys.length=32) :
  (execOp a.eval o).run lA w=.ok (.value (.bool (xs == ys))) w:=by
 have h1:(eqGuard .eql 59 x y (.agg (xs.map B).toArray) (.agg (ys.map B).toArray)).run lA w=.ok () w:=run_eqGuard_agg (P:=lA) w .eql 59 x y _ _ (by kernel_rfl);simp only[execOp,ho,hxe,hye,lD,h1,lB,Zcj (P:=lA) w 59 5 32 underlying59 underlying5 (by kernel_rfl) xs ys hx hy,lE]
theorem Xx(w:World){o:Oper}{a:Act}{x y:Operand}{yt:TypeId}(ho:o.op=.binOp .neq 59 x y yt)(xs ys:List UInt8)(hxe:a.eval x=.agg (xs.map B).toArray)(hye:a.eval y=.agg (ys.map B).toArray)(hx:xs.length=32)(hy:ys.length=32) :
  (execOp a.eval o).run lA w=.ok (.value (.bool (!(xs == ys)))) w:=by
 have h1:(eqGuard .neq 59 x y (.agg (xs.map B).toArray) (.agg (ys.map B).toArray)).run lA w=.ok () w:=run_eqGuard_agg (P:=lA) w .neq 59 x y _ _ (by kernel_rfl);simp only[execOp,ho,hxe,hye,lD,h1,lB,Zck (P:=lA) w 59 5 32 underlying59 underlying5 (by kernel_rfl) xs ys hx hy,lE]
theorem Z6d{ops:Array Oper}{rest:List Oper}{o:Oper}{a:Act}{w:World}{Q:Exit->Act->World->Prop}(hgd:o.guard=none)(x y:Operand)(yt:TypeId)(ho:o.op=.binOp .eql 59 x y yt)
  (xs ys:List UInt8) (hxe:a.eval x=.agg (xs.map B).toArray) (hye:a.eval y=.agg (ys.map B).toArray) (hx:xs.length=32) (hy:ys.length=32)
  (h:wpList lA ops Q rest (a.put o.dst (.bool (xs == ys))) w):wpList lA ops Q (o :: rest) a w :=
 Y2 _ ho hgd _ (Z6c w ho xs ys hxe hye hx hy) h
end
section
open Go.RowKit
def Zt(a b:List UInt8):Bool:=kB a b
theorem Z6e(a:List UInt8):Zt a a=false:=by
 unfold Zt;induction a with
 | nil=>rfl
 | cons x a ih=>simp[kB,ih]
theorem Zcl(a b:List UInt8)(ha:a.length=32)(hb:b.length=32)(w:World) :
    Calls lA 141 #[.agg (a.map B).toArray,.agg (b.map B).toArray] w fun e w'=>e=.returned (.bool (Zt a b))/\Below w.heap.size w w':=by
  have hsa:(lA.info? 59).map (·.size)=some (a.map B).length:=by rw[lZ,ha];kernel_rfl
  have hsb:(lA.info? 59).map (·.size)=some (b.map B).length:=by rw[lZ,hb];kernel_rfl
  replace hsa:=iD hsa;replace hsb:=iD hsb;replace ha:=iD ha;replace hb:=iD hb;go_enter func141,ntmps141;go_wp2_with (first
    | (refine Zy rfl 59 (.tmp 2) rfl w.heap.size rfl 59 (a.map B) ((Blk.new_at rfl).alloc _) _ underlying59 rfl hsa.out ?_)
    | (refine Zy rfl 59 (.tmp 3) rfl (w.heap.size+1) rfl 59 (b.map B) (Blk.new_at (by simp)) _ underlying59 rfl hsb.out ?_)
    | (refine Z6d rfl (.tmp 5) (.tmp 6) _ rfl a b rfl rfl ha.out hb.out ?_))
  · go_ret
    refine⟨?_,bL.alloc (by simp) _⟩;have : a=b:=by simpa using ‹(a == b)=true›
    rw[this,Z6e];rfl
  · go_frame
    have hB1:Blk ((w.alloc (.cells (a.map B).toArray 59)).alloc (.cells (b.map B).toArray 59)) w.heap.size 59 (a.map B):=(Blk.new_at rfl).alloc _;have hB2:Blk ((w.alloc (.cells (a.map B).toArray 59)).alloc (.cells (b.map B).toArray 59)) (w.heap.size+1) 59 (b.map B):=Blk.new_at (by simp);have hbl:Below w.heap.size w ((w.alloc (.cells (a.map B).toArray 59)).alloc (.cells (b.map B).toArray 59)):=bL.alloc (by simp) _;generalize (w.alloc (.cells (a.map B).toArray 59)).alloc (.cells (b.map B).toArray 59)=w1 at hB1 hB2 hbl ⊢;refine wp_region_quiet_lit (by kernel_rfl) (by kernel_rfl) ?_;repeat (first
      | (refine Gu (ok:=fun _=>True) 57 9 (.tmp 8) rfl rfl 5 underlying57 underlying5 underlying9 (some ⟨w.heap.size,0,none⟩) a 32 (by rw[ha.out];rfl) (fun w' hw=>?_) ?_
         · obtain⟨n,rfl⟩:=hw
           exact Rd.of_blk (r:=[]) (hB1.drewN n) (by simp) trivial
         go_frame)
      | (refine Gu (ok:=fun _=>True) 57 9 (.tmp 10) rfl rfl 5 underlying57 underlying5 underlying9 (some ⟨w.heap.size+1,0,none⟩) b 32 (by rw[hb.out];rfl) (fun w' hw=>?_) ?_
         · obtain⟨n,rfl⟩:=hw
           exact Rd.of_blk (r:=[]) (hB2.drewN n) (by simp) trivial
         go_frame)
      | go_big_quiet_step (fail))
    refine nM ?_;rintro _ ⟨nq,rfl⟩;go_wp2;go_ret;exact⟨rfl,kA hbl nq⟩
end
section
open Go.RowKit
end
section
open Go.RowKit
theorem Z6f(a b:List UInt8):(⟨a.toArray⟩++⟨b.toArray⟩:ByteArray)=⟨(a++b).toArray⟩:=by
 apply ByteArray.ext;simp
end
end
section
open Go.Proofs.Tryz
section
open Go.Maps
abbrev DM:=DataW Unit
def Uz:DM->List UInt8
 | .lit (.string s)=>s
 | _=>[]
def Jl(t:List UInt8):DM:=.lit (.string t)
def Zz(D:DM)(k:List UInt8):Bool:=Maps.has D (.string k)
def fS(D:DM)(k:List UInt8):List UInt8:=Uz (D.atKey (.string k) (Jl []))
def Xy(D:DM)(k t:List UInt8):DM:=D.put (.string k) (Jl t)
def K4(D:DM)(k:List UInt8):DM:=D.del (.string k)
def Zq(D:DM):Nat:=kC D
def fEs:DM->List (Lit × DM)
 | .map es=>es
 | _=>[]
def Vk(p:Lit × DM):Nat:=(Uz p.2).length
def Yr(D:DM):Nat:=((fEs D).map Vk).sum
def Vl(D:DM):List (List UInt8):=(strKeys D).mergeSort leB
def K5:DM:=.map []
def Yu(D:DM):Prop:=∃ es,D=.map es/\es.Pairwise (fun p q=>p.1 ≠ q.1)/\∀ p ∈ es,∃ k v:List UInt8,p=(.string k,Jl v)
theorem Yu.nil:Yu K5:=⟨[],rfl,List.Pairwise.nil,by simp⟩
theorem Yu.tidy{D:DM}(h:Yu D):Tidy D:=by obtain⟨es,rfl,hp,_⟩:=h;exact⟨es,rfl,hp⟩
theorem Yu.isMap{D:DM}(h:Yu D):IsMap D:=h.tidy.isMap
theorem Z6g(k:List UInt8):WideAt.IsKeyLit (.string k):=trivial
theorem Yu.put{D:DM}(h:Yu D)(k t:List UInt8):Yu (Xy D k t):=by
 have ht:=h.tidy.put (Z6g k) (Jl t);obtain⟨es,rfl,hp,hs⟩:=h;obtain⟨es',he,hp'⟩:=ht;refine⟨es',he,hp',fun p hm=>?_⟩;simp only[DataW.put,DataW.map.injEq] at he;rw[<-he] at hm;have hmem:∀ (l:List (Lit × DM)) (x p),p ∈ lS x l->p=x ∨ p ∈ l:=by
  intro l x p;induction l with
  | nil=>intro h;simp only[lS,List.mem_singleton] at h;exact .inl h
  | cons y r ih =>
   unfold lS;split
   ·intro h;simpa using h
   ·intro h;rcases nN.1 h with h | h
    ·exact .inr (by simp[h])
    ·rcases ih h with h | h
     ·exact .inl h
     ·exact .inr (by simp[h])
 rcases hmem _ _ _ hm with h | h
 ·exact⟨k,t,h⟩
 ·exact hs p (k6.1 h).1
theorem Yu.del{D:DM}(h:Yu D)(k:List UInt8):Yu (K4 D k):=by
 obtain⟨es,rfl,hp,hs⟩:=h;exact⟨_,rfl,hp.filter _,fun p hm=>hs p (k6.1 hm).1⟩
theorem Z6h(f:Lit × DM->Nat)(x:Lit × DM):∀ l:List (Lit × DM),((lS x l).map f).sum=f x+(l.map f).sum
 | []=>by simp[lS]
 | y :: r=>by
  unfold lS;split
  ·simp
  ·simp only[lN,kD,Z6h f x r];omega
theorem Zcm(k:Lit):∀ l:List (Lit × DM),(∀ p ∈ l,p.1 ≠ k)->(l.filter fun p=>!p.1.sameKey k)=l:=fun l h=>by
 rw[List.filter_eq_self];intro p hp;rw[sameKey_ne (h p hp)];rfl
def Q1(l:List (Lit × DM))(k:Lit):DM:=match l.find? (fun p=>p.1.sameKey k) with | some p=>p.2 | none=>Jl []
theorem Z19(k:Lit):∀ l:List (Lit × DM),l.Pairwise (fun p q=>p.1 ≠ q.1) ->
  ((l.filter fun p=>!p.1.sameKey k).map Vk).sum+(Uz (Q1 l k)).length=(l.map Vk).sum
 | [],_=>by simp[Uz,Jl,Q1]
 | p :: r,h=>by
  obtain⟨h1,h2⟩:=kE.1 h;cases hs:p.1.sameKey k with
  | true =>
   have he:=WideAt.sameKey_eq hs;have hr:=Zcm k r (fun q hq e=>h1 q hq (by rw[he,e]));rw[List.filter_cons_of_neg (by simp[hs]),hr];simp only[Q1,List.find?_cons_of_pos (p:=fun p:Lit × DM=>p.1.sameKey k) (by simpa using hs),Vk,lN,kD];omega
  | false =>
   rw[List.filter_cons_of_pos (by simp[hs])];have:=Z19 k r h2;have e:Q1 (p :: r) k=Q1 r k:=by simp only[Q1,List.find?_cons_of_neg (p:=fun p:Lit × DM=>p.1.sameKey k) (a:=p) (l:=r) (by simp[hs])]
   rw[e];simp only[lN,kD];omega
theorem Z37(es:List (Lit × DM))(k:List UInt8):fS (.map es) k=Uz (Q1 es (.string k)):=by
 simp only[fS,Q1,DataW.atKey];cases es.find? (fun p=>p.1.sameKey (.string k)) <;> rfl
theorem Z38{D:DM}(h:Yu D)(k t:List UInt8):Yr (Xy D k t)+(fS D k).length=Yr D+t.length:=by
 obtain⟨es,rfl,hp,_⟩:=h;have h1:=Z19 (.string k) es hp;have h2:Yr (Xy (.map es) k t)=t.length+((es.filter fun p=>!p.1.sameKey (.string k)).map Vk).sum:=by
  simp only[Yr,Xy,DataW.put,fEs,Z6h];rfl
 have h4:Yr (.map es)=(es.map Vk).sum:=rfl;rw[h2,Z37,h4];rw[lJ,h1,kO]
theorem Z1a{D:DM}(h:Yu D)(k:List UInt8):Yr (K4 D k)+(fS D k).length=Yr D:=by
 obtain⟨es,rfl,hp,_⟩:=h;rw[Z37];exact Z19 (.string k) es hp
theorem Z6i{a b:List UInt8}(h:a ≠ b):(Lit.string a) ≠ .string b:=fun e=>h (by injection e)
section
variable {D:DM} {k k' t:List UInt8}
theorem Zcn(h:Yu D):Zz (Xy D k t) k=true:=has_put_same h.isMap (Z6g k) _
theorem Z6j(hne:k' ≠ k):Zz (Xy D k t) k'=Zz D k':=has_put_other (Z6i hne) _
theorem Zco:Zz (K4 D k) k=false:=has_del_same
theorem Zcp(hne:k' ≠ k):Zz (K4 D k) k'=Zz D k':=has_del_other (Z6i hne)
theorem Z1b(h:Zz D k=false):fS D k=[]:=by unfold fS;rw[atKey_of_not_has h];rfl
theorem Z1c(h:Yu D):Zq (Xy D k t)=if Zz D k then Zq D else Zq D+1:=size_put h.tidy _
theorem Z1d(h:Yu D):Zq (K4 D k)+(if Zz D k then 1 else 0)=Zq D:=size_del h.tidy
theorem Zcq(h:Yu D):Zq (Xy D k t)<=Zq D+1:=by rw[Z1c h];split <;> omega
theorem Z6k(h:Yu D):Zq (K4 D k)<=Zq D:=by have:=Z1d (k:=k) h;omega
end
theorem Z6l(D:DM):(Vl D).Perm (strKeys D):=List.mergeSort_perm _ _
theorem Zcr(D:DM):(Vl D).length=Zq D:=by
 rw[(Z6l D).length_eq];cases D <;> simp[strKeys,Zq,kC]
inductive DOp where
 | write (s t:List UInt8)
 | remove (s:List UInt8)
 | rename (s t:List UInt8)
def U5(t:List UInt8)(k:Int):List UInt8:=if 1<k then t.take ((k - 2) % ((t.length:Int)+1)).toNat else t
def DOp.act:DOp->Int->DM->DM
 | .write s t,k,D=>Xy D s (U5 t k)
 | .remove s,_,D=>K4 D s
 | .rename s t,_,D=>if Zz D s then Xy (K4 D s) t (fS D s) else D
def DOp.ok:DOp->Prop
 | .write s t=>s.length<=80/\t.length<=16777216
 | .remove s=>s.length<=80
 | .rename s t=>s.length<=80/\t.length<=80
theorem DOp.act_str{D:DM}(h:Yu D)(o:DOp)(k:Int):Yu (o.act k D):=by
 cases o with
 | write s t=>exact h.put _ _
 | remove s=>exact h.del _
 | rename s t =>
  simp only[DOp.act];split
  ·exact (h.del _).put _ _
  ·exact h
theorem Zcs{D:DM}(h:Yu D)(s t:List UInt8)(hs:Zz D s=true):Zq (Xy (K4 D s) t (fS D s))<=Zq D:=by
 have h1:=Zcq (k:=t) (t:=fS D s) (h.del s);have h2:=Z1d (k:=s) h;rw[hs] at h2;simp at h2;omega
structure DS where
 now:DM
 sure:DM
 pend:List DOp
 room:Int
 fuse:Int
 off:Bool
def Y3(s:List UInt8):Bool:=decide (1<=s.length) && decide (s.length<=80)
def DS.tick(S:DS):DS:=if S.off then S else { S with off:=decide (S.fuse=0),fuse:=max (S.fuse - 1) (-1) }
def DS.powE(S:DS):Int:=if S.tick.off then 15 else 0
def DS.powR(S:DS):Int:=if S.off then 15 else 0
def DS.does(S:DS)(o:DOp):DS:={ S with now:=o.act 1 S.now,pend:=S.pend++[o] }
def K6(S:DS)(s t:List UInt8):Bool:=decide (S.room - (t.length:Int)<(Yr S.now:Int) - ((fS S.now s).length:Int)) || decide (600<Zq S.now+(if Zz S.now s then 0 else 1))
inductive Call where
 | write (s t:List UInt8)
 | remove (s:List UInt8)
 | rename (s t:List UInt8)
 | sync
def Call.err(S:DS):Call->Int
 | .write s t=>if Y3 s then (if K6 S s t then 14 else 0) else 11
 | .remove s=>if Y3 s then (if Zz S.now s then 0 else 5) else 11
 | .rename s t=>if Y3 s && Y3 t then (if Zz S.now s then 0 else 5) else 11
 | .sync=>0
def Call.done(S:DS):Call->DS
 | .write s t=>S.does (.write s t)
 | .remove s=>S.does (.remove s)
 | .rename s t=>S.does (.rename s t)
 | .sync=>{ S with sure:=S.now,pend:=[] }
def Call.errno(c:Call)(S:DS):Int:=if S.tick.off then 15 else c.err S.tick
def Call.turn(c:Call)(S:DS):DS:=if S.tick.off then S.tick else if c.err S.tick=0 then c.done S.tick else S.tick
def DS.new(room:Int):DS:=⟨K5,K5,[],room,-1,false⟩
structure DS.Fit (S:DS):Prop where
 now:Yu S.now
 sure:Yu S.sure
 ops:∀ o ∈ S.pend,o.ok
 room0:0<=S.room
 room1:S.room<=16777216
 fuse0:-1<=S.fuse
 fuse1:S.fuse<=1000000
structure DS.Good (S:DS):Prop extends S.Fit where
 sum:(Yr S.now:Int)<=S.room
 few:Zq S.now<=600
 few':Zq S.sure<=600
def DS.readE(S:DS)(s:List UInt8):Int:=if S.off then 15 else if Y3 s then (if Zz S.now s then 0 else 5) else 11
def DS.readT(S:DS)(s:List UInt8):List UInt8:=if S.off then [] else if Y3 s then fS S.now s else []
end
section
open Go.RowKit Go.Maps Go.ChangeMaps Go.WideMaps
def Z1(s:List UInt8):Value:=.string ⟨s.toArray⟩
theorem Qs:Keyed lA 9:=string_keyed underlying9
theorem Z6m(w:World):(zeroValue 9).run lA w=.ok (Z1 []) w:=by kernel_rfl
theorem O0(k:List UInt8)(hk:k.length<=maxLen):keyOf lA 9 (Z1 k)=some (.string k):=by
 have:=keyOf_string_mk (P:=lA) (k:=9) (s:=⟨k.toArray⟩) underlying9 (by simpa[k7] using hk);simpa[Z1] using this
theorem Gw(t:List UInt8)(ht:t.length<=maxLen):plainElem (H:=Unit) lA 9 (Z1 t)=some (Jl t,[]):=by
 have:=plainElem_string (H:=Unit) (P:=lA) (e:=9) (s:=⟨t.toArray⟩) underlying9 (by simpa[k7] using ht);simpa[Z1,Jl] using this
theorem Gx{v:Value}{z:DM × List MemPlace}(h:plainElem (H:=Unit) lA 9 v=some z):∃ t,v=Z1 t/\z=(Jl t,[])/\t.length<=maxLen:=by
 obtain⟨s,rfl,rfl,hs⟩:=plainElem_string_inv underlying9 h;exact⟨s.data.toList,by simp[Z1],rfl,by rw[Array.length_toList];exact hs⟩
def Zp(w:World)(b:Nat)(D:DM):Prop:=w.ownsMap lA 9 (plainElem lA 9) b (Zq D) D
section
variable {w w':World} {b n:Nat} {D:DM} {k t:List UInt8}
theorem Zp.of(h:w.ownsMap lA 9 (plainElem lA 9) b n D):Zp w b D:=by
 obtain⟨es,clock,hb,F,_,rfl⟩:=h;exact⟨es,clock,hb,F,by simp[Zq,kC,length_sorted],rfl⟩
theorem Zp.str(h:Zp w b D):Yu D:=by
 obtain⟨es,rfl,hp,_⟩:=World.ownsMap.entries h Qs;refine⟨es,rfl,hp,fun p hm=>?_⟩;obtain⟨es',clock,_,F,_,he⟩:=h;have he':es=(es'.toList.map (WideElems.rg lA 9 (plainElem (H:=Unit) lA 9))).foldr lS []:=by injection he
 rw[he'] at hm;obtain⟨x,hx,rfl⟩:=n8.1 (mem_sorted.1 hm);obtain⟨y,hy⟩:=F.reads x hx;rw[WideElems.rg_of hy];obtain⟨z,hz,he2⟩:=WideElems.rd_val hy;obtain⟨t,_,rfl,_⟩:=Gx hz;obtain⟨q,_,hq,_⟩:=Maps.keyOf_str underlying9 (WideElems.rd_key hy);exact⟨q,t,by rw[<-hq];exact Prod.ext rfl he2⟩
theorem Zp.lt(h:Zp w b D):b<w.heap.size:=World.ownsMap.lt h
theorem Zp.block(h:Zp w b D)(hb:w'.heap[b]?=w.heap[b]?):Zp w' b D:=by
 obtain⟨es,clock,hb',r⟩:=h;exact⟨es,clock,hb.trans hb',r⟩
theorem Zp.at(h:Zp w b D):∃ es clock,w.heap[b]?=some (.map es clock):=by
 obtain⟨es,clock,hb',r⟩:=h;exact⟨es,clock,hb'⟩
theorem Zp.val(k:List UInt8){v:Value}{ps:List MemPlace}(hv:plainElem (H:=Unit) lA 9 v=some (D.atKey (.string k) (Jl []),ps)):v=Z1 (fS D k):=by
 obtain⟨t,rfl,he,_⟩:=Gx hv;simp only[n3] at he;unfold fS;rw[he.1];rfl
theorem Zp.look(h:Zp w b D)(hk:k.length<=maxLen):(Instr.lookup 102 (.map (some b)) (Z1 k) true).run lA w=.ok (.tuple #[Z1 (fS D k),.bool (Zz D k)]) w:=by
 obtain⟨v,ps,hr,hv⟩:=World.ownsMap.look_ok h Qs underlying102 (Z6m w) (Gw [] (nF _)) (O0 k hk);rw[hr,Zp.val k hv];rfl
theorem Zp.text_le(h:Zp w b D)(hk:k.length<=maxLen):(fS D k).length<=maxLen:=by
 obtain⟨v,ps,hr,hv⟩:=World.ownsMap.look_ok h Qs underlying102 (Z6m w) (Gw [] (nF _)) (O0 k hk);obtain⟨t,rfl,he,ht⟩:=Gx hv;simp only[n3] at he;unfold fS;rw[he.1];exact ht
end
structure Touch (L:List Nat) (w w':World):Prop where
 os:w'.os=w.os
 tape:w'.tape=w.tape
 output:w'.output=w.output
 size:w.heap.size<=w'.heap.size
 block:∀ i,i<w.heap.size->i ∉ L->w'.heap[i]?=w.heap[i]?
section
variable {L L':List Nat} {w w1 w':World}
theorem Touch.refl(L:List Nat)(w:World):Touch L w w:=⟨rfl,rfl,rfl,lP _,fun _ _ _=>rfl⟩
theorem Touch.trans(h:Touch L w w1)(h':Touch L' w1 w')(hL:∀ i ∈ L',i ∈ L ∨ w.heap.size<=i):Touch L w w' :=
 ⟨h'.os.trans h.os,h'.tape.trans h.tape,h'.output.trans h.output,k8 h.size h'.size,fun i hi hn=>(h'.block i (k9 hi h.size) (fun hm=>by
  rcases hL i hm with h1 | h1
  ·exact hn h1
  ·omega)).trans (h.block i hi hn)⟩
theorem Touch.mono(h:Touch L w w')(hL:∀ i ∈ L,i ∈ L' ∨ w.heap.size<=i):Touch L' w w':=⟨h.os,h.tape,h.output,h.size,fun i hi hn=>h.block i hi (fun hm=>by
 rcases hL i hm with h1 | h1
 ·exact hn h1
 ·omega)⟩
theorem Touch.grown{row:Option Nat}(h:w.grownBy w' row)(hr:∀ b,row=some b->b ∈ L):Touch L w w' :=
 ⟨h.os,h.tape,h.output,h.size,fun i hi hn=>h.block i hi (fun e=>hn (hr i e.symm))⟩
theorem Touch.ofBelow(h:Below w.heap.size w w'):Touch L w w':=⟨h.os,h.tape,h.output,h.size,fun i hi _=>h.block i hi⟩
theorem Touch.below{B:Nat}(h:Touch L w w')(hB:B<=w.heap.size)(hL:∀ i ∈ L,B<=i):Below B w w' :=
 ⟨h.os,h.tape,h.output,h.size,fun i hi=>h.block i (k9 hi hB) (fun hm=>by have:=hL i hm;omega)⟩
theorem Touch.drewN(n:Nat):Touch L w (w.drewN n):=⟨rfl,rfl,rfl,lP _,fun _ _ _=>rfl⟩
theorem Touch.setCell{g i:Nat}(u:Value)(hg:g ∈ L):Touch L w (w.setCell ⟨g,i,none⟩ u) :=
 ⟨rfl,rfl,rfl,by simp,fun k _ hn=>kH w ⟨g,i,none⟩ u k (fun e=>hn (by have : k=g:=e;rw[this];exact hg))⟩
theorem Touch.alloc(o:Obj):Touch L w (w.alloc o):=Touch.grown (World.grownBy_alloc w o none) (by simp)
theorem Blk.touch{g:Nat}{t:TypeId}{cs:List Value}(h:Blk w g t cs)(ht:Touch L w w')(hg:g ∉ L):Blk w' g t cs:=(ht.block g h.lt hg).trans h
theorem Zp.touch{b:Nat}{D:DM}(h:Zp w b D)(ht:Touch L w w')(hg:b ∉ L):Zp w' b D:=h.block (ht.block b h.lt hg)
theorem Zj{base:Nat}{e:TypeId}{size:Nat}{v:Value}{n:Nat}{xs:List Value}(h:w.ownsRow base e size v n xs)(ht:Touch L w w')(hv:∀ b,v.ownBlock=some b->b ∉ L):w'.ownsRow base e size v n xs:=by
 obtain⟨h1,h2⟩:=h;refine⟨h1,?_⟩;rcases h2 with h2 | ⟨g,cap,cur,rfl,hb,hg,r⟩
 ·exact .inl h2
 ·have hlt:g<w.heap.size:=(nI.1 hg).1;exact .inr ⟨g,cap,cur,rfl,hb,(ht.block g hlt (hv g rfl)).trans hg,r⟩
end
def Vm(w:World):DOp->Value->Prop
 | .write s t,v=>∃ a b,v=.func (.func 197) #[] #[.pointer (some ⟨a,0,none⟩),.pointer (some ⟨b,0,none⟩)]/\Blk w a 9 [Z1 t]/\Blk w b 9 [Z1 s]
 | .remove s,v=>∃ a,v=.func (.func 205) #[] #[.pointer (some ⟨a,0,none⟩)]/\Blk w a 9 [Z1 s]
 | .rename s t,v=>∃ a b,v=.func (.func 199) #[] #[.pointer (some ⟨a,0,none⟩),.pointer (some ⟨b,0,none⟩)]/\Blk w a 9 [Z1 s]/\Blk w b 9 [Z1 t]
def Qg(w:World)(L:List Nat):Prop:=∀ i ∈ L,∀ cs,¬ Blk w i 9 cs
theorem Vm.touch{w w':World}{L:List Nat}{o:DOp}{v:Value}(h:Vm w o v)(ht:Touch L w w')(hL:Qg w L):Vm w' o v:=by
 cases o with
 | write s t =>
  obtain⟨a,b,e,h1,h2⟩:=h;exact⟨a,b,e,h1.touch ht (fun hm=>hL a hm _ h1),h2.touch ht (fun hm=>hL b hm _ h2)⟩
 | remove s =>
  obtain⟨a,e,h1⟩:=h;exact⟨a,e,h1.touch ht (fun hm=>hL a hm _ h1)⟩
 | rename s t =>
  obtain⟨a,b,e,h1,h2⟩:=h;exact⟨a,b,e,h1.touch ht (fun hm=>hL a hm _ h1),h2.touch ht (fun hm=>hL b hm _ h2)⟩
theorem Vm.one{w:World}{o:DOp}{v:Value}(h:Vm w o v):v.oneCell'=true:=by
 cases o with
 | write s t=>obtain⟨a,b,rfl,_⟩:=h;rfl
 | remove s=>obtain⟨a,rfl,_⟩:=h;rfl
 | rename s t=>obtain⟨a,b,rfl,_⟩:=h;rfl
def Qt(w:World)(os:List DOp)(vs:List Value):Prop:=os.length=vs.length/\∀ (i:Nat) o v,os[i]?=some o->vs[i]?=some v->Vm w o v
theorem Qt.touch{w w':World}{L:List Nat}{os:List DOp}{vs:List Value}(h:Qt w os vs)(ht:Touch L w w')(hL:Qg w L):Qt w' os vs :=
 ⟨h.1,fun i o v ho hv=>(h.2 i o v ho hv).touch ht hL⟩
theorem Qt.snoc{w:World}{os:List DOp}{vs:List Value}{o:DOp}{v:Value}(h:Qt w os vs)(ho:Vm w o v):Qt w (os++[o]) (vs++[v]):=by
 refine⟨by simp[h.1],fun i o' v' h1 h2=>?_⟩;by_cases hi:i<os.length
 ·rw[l3 hi] at h1;rw[l3 (h.1 ▸ hi)] at h2;exact h.2 i o' v' h1 h2
 ·rw[nO (by omega)] at h1;rw[nO (by have:=h.1;omega)] at h2;have hl:i=os.length:=by
   have:=(lT.1 h1).1;simp at this;omega
  subst hl;simp only[bA,l1,lR] at h1;rw[h.1] at h2;simp only[bA,l1,lR] at h2;subst h1;subst h2;exact ho
def Vn(bn bs:Nat)(v:Value)(S:DS):List Value:=[.map (some bn),.map (some bs),v,.int .i64 S.room,.int .i64 S.fuse,.bool S.off]
structure DiskAt (w:World) (g bn bs:Nat) (v:Value) (S:DS):Prop where
 blk:Blk w g 105 (Vn bn bs v S)
 now:Zp w bn S.now
 sure:Zp w bs S.sure
 ne:bn ≠ bs
 row:∃ vs,w.ownsRow 0 314 1 v S.pend.length vs/\Qt w S.pend vs
def Zf(g bn bs:Nat)(v:Value):List Nat:=g :: bn :: bs :: v.ownBlock.toList
def J3(w:World)(L:List Nat)(g:Nat)(S:DS):Prop:=∃ bn bs v,DiskAt w g bn bs v S/\L=Zf g bn bs v
def Yv(w:World)(L:List Nat)(g:Nat)(S:DS)(w':World):Prop:=Touch L w w'/\∃ L',J3 w' L' g S/\∀ i ∈ L',i ∈ L ∨ w.heap.size<=i
section
variable {w w':World} {L M:List Nat} {g bn bs:Nat} {v:Value} {S S':DS}
theorem DiskAt.mem_foot{i:Nat}(hi:i ∈ Zf g bn bs v):i=g ∨ i=bn ∨ i=bs ∨ v.ownBlock=some i:=by
 simp only[Zf,nN,Option.mem_toList] at hi;exact hi
theorem DiskAt.tag(h:DiskAt w g bn bs v S){b:Nat}{t:TypeId}{cs:List Value}(hB:Blk w b t cs)(h1:t ≠ 105)(h2:t ≠ 314):b ∉ Zf g bn bs v:=by
 intro hm;rcases DiskAt.mem_foot hm with rfl | rfl | rfl | e
 ·exact hB.ne_ h.blk h1 rfl
 ·obtain⟨es,c,he⟩:=h.now.at;unfold Blk at hB;rw[he] at hB;cases hB
 ·obtain⟨es,c,he⟩:=h.sure.at;unfold Blk at hB;rw[he] at hB;cases hB
 ·obtain⟨vs,ho,_⟩:=h.row;rcases ho.2 with ⟨rfl,_⟩ | ⟨g',cap,cur,rfl,_,hg,_⟩
  ·cases e
  ·have : g'=b:=by simpa[Value.ownBlock] using e
   subst this;unfold Blk at hB;rw[hg] at hB
   injection hB with hB
   injection hB with _ ht
   exact h2 ht.symm
theorem J3.tag(h:J3 w L g S){b:Nat}{t:TypeId}{cs:List Value}(hB:Blk w b t cs)(h1:t ≠ 105)(h2:t ≠ 314):b ∉ L:=by
 obtain⟨bn,bs,v,hd,rfl⟩:=h;exact hd.tag hB h1 h2
theorem DiskAt.noBox(h:DiskAt w g bn bs v S):Qg w (Zf g bn bs v):=fun i hi cs hB=>h.tag hB (by decide) (by decide) hi
theorem DiskAt.lt(h:DiskAt w g bn bs v S):∀ i ∈ Zf g bn bs v,i<w.heap.size:=by
 intro i hi;rcases DiskAt.mem_foot hi with rfl | rfl | rfl | e
 ·exact h.blk.lt
 ·exact h.now.lt
 ·exact h.sure.lt
 ·obtain⟨vs,ho,_⟩:=h.row;exact (ho.lt i e).2
theorem J3.lt(h:J3 w L g S):∀ i ∈ L,i<w.heap.size:=by
 obtain⟨bn,bs,v,hd,rfl⟩:=h;exact hd.lt
theorem DiskAt.touch(h:DiskAt w g bn bs v S)(ht:Touch M w w')(hd:∀ i ∈ Zf g bn bs v,i ∉ M)(hb:Qg w M):DiskAt w' g bn bs v S:=by
 refine⟨h.blk.touch ht (hd g (by simp[Zf])),h.now.touch ht (hd bn (by simp[Zf])),h.sure.touch ht (hd bs (by simp[Zf])),h.ne,?_⟩;obtain⟨vs,ho,hop⟩:=h.row;exact⟨vs,Zj ho ht (fun b hb'=>hd b (by simp[Zf,hb'])),hop.touch ht hb⟩
theorem J3.touch(h:J3 w L g S)(ht:Touch M w w')(hd:∀ i ∈ L,i ∉ M)(hb:Qg w M):J3 w' L g S:=by
 obtain⟨bn,bs,v,h1,rfl⟩:=h;exact⟨bn,bs,v,h1.touch ht hd hb,rfl⟩
theorem J3.below(h:J3 w L g S)(hb:Below w.heap.size w w'):J3 w' L g S:=h.touch (M:=[]) (Touch.ofBelow hb) (by simp) (by simp[Qg])
theorem DiskAt.below(h:DiskAt w g bn bs v S)(hb:Below w.heap.size w w'):DiskAt w' g bn bs v S:=h.touch (M:=[]) (Touch.ofBelow hb) (by simp) (by simp[Qg])
theorem Yv.same(h:J3 w L g S)(hb:Below w.heap.size w w'):Yv w L g S w':=⟨Touch.ofBelow hb,L,h.below hb,fun _ hi=>.inl hi⟩
theorem Yv.then{w1:World}(h:Touch L w w1)(hs:∀ i ∈ M,i ∈ L ∨ w.heap.size<=i)(h':Yv w1 M g S w'):Yv w L g S w':=by
 obtain⟨ht,L',hd,hL⟩:=h';refine⟨h.trans ht hs,L',hd,fun i hi=>?_⟩;rcases hL i hi with h1 | h1
 ·exact hs i h1
 ·exact .inr (k8 h.size h1)
end
section
variable {P:Program} (w:World)
theorem Zct(t k e:TypeId)(p:Option Nat)(h:P.underlying t=some (.map k e)):(binOp .neq t (.map p) (.map none)).run P w=.ok (.bool (!p.isNone)) w:=by
 simp only[binOp];have h1:∀ d,(l0 (d+1) t (.map p) (.map none)).run P w=.ok p.isNone w:=fun d=>by cases p <;> simp[l0,lK h]
 simp[show Op.equal t (.map p) (.map none)=l0 (9999+1) t (.map p) (.map none) from rfl,h1 9999]
end
end
end
section
set_option maxRecDepth 100000
set_option maxHeartbeats 1000000
open Go.Lib renaming hid → iD
open Go.Proofs.Tryz
section
abbrev Str:=List UInt8
structure Br where
 name:Str
 heads:List Str
abbrev Tab:=List Br
structure Chg where
 name:Str
 old:List Str
 new:List Str
def J8(c:UInt8):Bool:=(65<=c && c<=90) || (97<=c && c<=122) || (48<=c && c<=57) || c == 45 || c == 95 || c == 46 || c == 35 || c == 64 || c == 126
def Z6(s:Str):Bool:=s.all J8 && decide (1<=s.length) && decide (s.length<=24)
def Ko:List Str->Bool
 | a :: b :: r=>Zt a b && Ko (b :: r)
 | _=>true
def Yp(l:List Str):Int:=if 8<l.length then 4 else if Ko l then 0 else 7
def O1:Option Str->Str->Bool
 | none,_=>true
 | some p,n=>Zt p n
def J9:Option Str->Tab->Int
 | _,[]=>0
 | p,b :: r=>if Z6 b.name then (if O1 p b.name then (if b.heads=[] then 5 else if Yp b.heads=0 then J9 (some b.name) r else Yp b.heads) else 7) else 11
def Xk(l:Tab):Int:=if 32<l.length then 4 else J9 none l
def K7(l:List Str):Str:=l.flatMap fun d=>32 :: Jc d
def Oo(b:Br):Str:=b.name++K7 b.heads++[10]
def Jv(l:Tab):Str:=l.flatMap Oo
def hOk(l:List Str):Prop:=∀ d ∈ l,d.length=32
def tOk(l:Tab):Prop:=∀ b ∈ l,hOk b.heads
theorem Z6n(a:Str):Zt a a=false:=Z6e a
theorem Z39(x y:UInt8)(a b:Str):Zt (x :: a) (y :: b)=(decide (x<y) || (x == y && Zt a b)):=by
 unfold Zt;rw[kB]
theorem Z1e:∀ (a b c:Str),Zt a b=true->Zt b c=true->Zt a c=true
 | [],[],_,h,_=>by cases h
 | [],_ :: _,[],_,h=>by cases h
 | [],_ :: _,_ :: _,_,_=>rfl
 | _ :: _,[],_,h,_=>by cases h
 | _ :: _,_ :: _,[],_,h=>by cases h
 | x :: a,y :: b,z :: c,h1,h2=>by
  rw[Z39] at h1 h2 ⊢;simp only[Bool.or_eq_true,decide_eq_true_eq,lF,beq_iff_eq] at h1 h2 ⊢;rcases h1 with h1 | ⟨rfl,h1⟩
  ·rcases h2 with h2 | ⟨rfl,_⟩
   ·exact .inl (UInt8.lt_trans h1 h2)
   ·exact .inl h1
  ·rcases h2 with h2 | ⟨rfl,h2⟩
   ·exact .inl h2
   ·exact .inr ⟨rfl,Z1e a b c h1 h2⟩
theorem Zcu:∀ (a b:Str),Zt a b=false->Zt b a=false->a=b
 | [],[],_,_=>rfl
 | [],_ :: _,h,_=>by cases h
 | _ :: _,[],_,h=>by cases h
 | x :: a,y :: b,h1,h2=>by
  rw[Z39] at h1 h2;simp only[Bool.or_eq_false_iff,decide_eq_false_iff_not,Bool.and_eq_false_imp,beq_iff_eq] at h1 h2;have hxy:x=y:=by
   have g1:=h1.1;have g2:=h2.1;rw[UInt8.lt_iff_toNat_lt] at g1 g2;exact kS.1 (by omega)
  subst hxy;rw[Zcu a b (h1.2 rfl) (h2.2 rfl)]
theorem Zcv{a b:Str}(h:Zt a b=true):a ≠ b:=fun e=>by rw[e,Z6n] at h;cases h
theorem Zcw{p:Option Str}{b:Br}{r:Tab}(h:J9 p (b :: r)=0):Z6 b.name=true/\O1 p b.name=true/\b.heads ≠ []/\Yp b.heads=0/\J9 (some b.name) r=0:=by
 simp only[J9] at h;split at h <;> rename_i h1
 ·split at h <;> rename_i h2
  ·split at h <;> rename_i h3
   ·cases h
   ·split at h <;> rename_i h4
    ·exact⟨h1,h2,h3,h4,h⟩
    ·exact absurd h h4
  ·cases h
 ·cases h
def J4(l:Tab):Prop:=l.Pairwise fun a b=>Zt a.name b.name=true
def bOk(b:Br):Prop:=Z6 b.name=true/\b.heads ≠ []/\Yp b.heads=0
theorem Z3a:∀ (l:Tab) (p:Option Str),J9 p l=0 ↔ ((∀ b ∈ l,bOk b)/\J4 l/\∀ q,p=some q->∀ b ∈ l,Zt q b.name=true)
 | [],p=>by simp[J9,J4]
 | b :: r,p=>by
  constructor
  ·intro h;obtain⟨h1,h2,h3,h4,h5⟩:=Zcw h;obtain⟨g1,g2,g3⟩:=(Z3a r _).1 h5;refine⟨fun x hx=>?_,kE.2 ⟨fun x hx=>g3 _ rfl x hx,g2⟩,fun q hq x hx=>?_⟩
   ·rcases nN.1 hx with rfl | hx
    ·exact⟨h1,h3,h4⟩
    ·exact g1 x hx
   ·subst hq;rcases nN.1 hx with rfl | hx
    ·exact h2
    ·exact Z1e _ _ _ h2 (g3 _ rfl x hx)
  ·rintro ⟨h1,h2,h3⟩;obtain⟨g1,g2⟩:=kE.1 h2;obtain⟨k1,k2,k3⟩:=h1 b (by simp);have hp:O1 p b.name=true:=by
    cases p with
    | none=>rfl
    | some q=>exact h3 q rfl b (by simp)
   simp only[J9];rw[if_pos k1,if_pos hp,if_neg k2,if_pos k3];exact (Z3a r _).2 ⟨fun x hx=>h1 x (by simp[hx]),g2,fun q hq x hx=>by cases hq;exact g1 x hx⟩
theorem Z3b(l:Tab):Xk l=0 ↔ (l.length<=32/\(∀ b ∈ l,bOk b)/\J4 l):=by
 unfold Xk;split
 ·constructor
  ·intro h;cases h
  ·rintro ⟨h,_⟩;omega
 ·rw[Z3a];constructor
  ·rintro ⟨h1,h2,_⟩;exact⟨by omega,h1,h2⟩
  ·rintro ⟨_,h1,h2⟩;exact⟨h1,h2,by simp⟩
def Yb(l:Tab)(n:Str):List Str:=match l.find? (fun b=>b.name == n) with | some b=>b.heads | none=>[]
def Ye(l:Tab)(n:Str):Nat:=(l.takeWhile fun b=>Zt b.name n).length
def Gy(n:Str)(h:List Str):Bool->Tab->Tab
 | done,[]=>if done then [] else [⟨n,h⟩]
 | done,b :: r=>if done=false/\Zt n b.name=true then ⟨n,h⟩ :: ((if b.name=n then [] else [b])++Gy n h true r) else (if b.name=n then [] else [b])++Gy n h done r
def putT(l:Tab)(n:Str)(h:List Str):Tab:=Gy n h (decide (h=[])) l
def U6(l:Tab)(ahead:List Chg)(c:Chg):Int :=
 if Z6 c.name then (if ahead.any (fun x=>x.name == c.name) then 6 else if Yp c.new=0 then (if Yb l c.name=c.old then 0 else 12) else Yp c.new) else 11
def Z1f(l:Tab):List Chg->List Chg->Int
 | _,[]=>0
 | ahead,c :: r=>if U6 l ahead c=0 then Z1f l (ahead++[c]) r else U6 l ahead c
def Z1g(l:Tab)(c:List Chg):Tab:=c.foldl (fun l x=>putT l x.name x.new) l
def U7(l:Tab)(c:List Chg):Int :=
 if Xk l=0 then (if 32<c.length then 4 else if Z1f l [] c=0 then (if 32<(Z1g l c).length then 4 else 0) else Z1f l [] c) else Xk l
def Ke(l:Tab)(c:List Chg):Tab:=if U7 l c=0 then Z1g l c else []
end
section
open Go.RowKit
section
variable {P:Program}
theorem Zcx{ops:Array Oper}{rest:List Oper}{o:Oper}{a:Act}{w:World}{Q:Exit->Act->World->Prop}(hw:lM o (yielded ops a.tmps)=true)
  (h:∀ K:Act->World->Prop,(∀ a w,wpList P ops Q rest a w->K a w)->o.wp P a w K Q):wpList P ops Q (o :: rest) a w :=
 wpList_step fun K hK=>by rw[if_pos hw];exact h K hK
theorem Zcy{ops:Array Oper}{rest:List Oper}{o:Oper}{a:Act}{w:World}{Q:Exit->Act->World->Prop}(op:Op)(_ho:o.op=op)(hw:lM o (yielded ops a.tmps)=true)(v:Value)
  (hrun:(execOp a.eval o).run P w=.ok (.value v) w) (h:wpList P ops Q rest (a.put o.dst v) w):wpList P ops Q (o :: rest) a w:=by
 refine Zcx hw fun _ hK=>?_;unfold l4;rw[hrun];exact hK _ _ h
theorem Z3c{ops:Array Oper}{rest:List Oper}{o:Oper}{a:Act}{C:World->Prop}{Q:Act->Prop}(op:Op)(_ho:o.op=op)(hw:lM o (yielded ops a.tmps)=true)(v:Value)
  (hrun:∀ w,C w->(execOp a.eval o).run P w=.ok (.value v) w) (h:wpQuiet P ops C Q rest (a.put o.dst v)):wpQuiet P ops C Q (o :: rest) a:=by
 refine wpQuiet_step fun K hK=>?_;rw[if_pos hw];exact⟨v,fun w hC=>by unfold l5;rw[hrun w hC];exact⟨rfl,rfl⟩,hK _ h⟩
theorem U8{ops:Array Oper}{rest:List Oper}{op:Oper}{a:Act}{w:World}{Q:Exit->Act->World->Prop}(ty:TypeId)(x:Operand)(ho:op.op=.load ty x)(hw:lM op (yielded ops a.tmps)=true)
  (g o:Nat) (hx:a.eval x=.pointer (some ⟨g,o,none⟩)) (part:List Value) (hc:∀ j v,part[j]?=some v->w.cell? ⟨g,o+j,none⟩=some v) (d:TypeDesc)
  (hu:P.underlying ty=some d) (hd:d.isRow=true) (hi:(P.info? ty).map (·.size)=some part.length)
  (h:wpList P ops Q rest (a.put op.dst (.agg part.toArray)) w):wpList P ops Q (op :: rest) a w:=by
 refine Zcy _ ho hw _ ?_ h;unfold execOp;simp only[ho,hx,nZ,lU,lD,lE,lB,n2 w g o ty part d hc hu hd hi]
theorem Z1h{ops:Array Oper}{rest:List Oper}{op:Oper}{a:Act}{C:World->Prop}{Q:Act->Prop}(ty:TypeId)(x:Operand)(ho:op.op=.load ty x)(hw:lM op (yielded ops a.tmps)=true)
  (g o:Nat) (hx:a.eval x=.pointer (some ⟨g,o,none⟩)) (part:List Value) (hc:∀ w,C w->∀ j v,part[j]?=some v->w.cell? ⟨g,o+j,none⟩=some v) (d:TypeDesc)
  (hu:P.underlying ty=some d) (hd:d.isRow=true) (hi:(P.info? ty).map (·.size)=some part.length)
  (h:wpQuiet P ops C Q rest (a.put op.dst (.agg part.toArray))):wpQuiet P ops C Q (op :: rest) a:=by
 refine Z3c _ ho hw _ (fun w hw=>?_) h;unfold execOp;simp only[ho,hx,nZ,lU,lD,lE,lB,n2 w g o ty part d (hc w hw) hu hd hi]
theorem Zcz{ops:Array Oper}{rest:List Oper}{o:Oper}{a:Act}{C:World->Prop}{Q:Act->Prop}(x y:Operand)(yt:TypeId)(ho:o.op=.binOp .neq 59 x y yt)(hw:lM o (yielded ops a.tmps)=true)
  (xs ys:List UInt8) (hxe:a.eval x=.agg (xs.map B).toArray) (hye:a.eval y=.agg (ys.map B).toArray) (hx:xs.length=32) (hy:ys.length=32) (r:Bool) (hr:(!(xs == ys))=r)
  (h:wpQuiet lA ops C Q rest (a.put o.dst (.bool r))):wpQuiet lA ops C Q (o :: rest) a :=
 Z3c _ ho hw _ (fun w _=>by rw[Xx w ho xs ys hxe hye hx hy,hr]) h
end
section
variable {w w':World} {ok ok':Nat->Prop} {A:Option Addr} {xs:List Value}
theorem Rd.at(h:Rd w ok A xs)(hn:0<xs.length):∃ b o,A=some ⟨b,o,none⟩/\ok b/\b<w.heap.size/\∀ j u,xs[j]?=some u->w.cell? ⟨b,o+j,none⟩=some u:=by
 obtain⟨⟨b,o,spot⟩,rfl,hb,hc⟩:=h hn;have h0:=hc 0 xs[0] (lV hn);have hs:spot=none:=by simpa[l2] using World.cell?_spot h0
 subst hs;refine⟨b,o,rfl,hb,kJ _ _ (by simpa[l2] using h0),fun j u hu=>?_⟩;have:=hc j u hu
 rwa [Jk] at this
theorem Rd.stay(h:Rd w ok A xs)(hk:∀ b,ok b->b<w.heap.size->w'.heap[b]?=w.heap[b]?)(ho:∀ b,ok b->b<w.heap.size->ok' b):Rd w' ok' A xs:=fun hn=>by
 obtain⟨b,o,rfl,hb,hlt,hc⟩:=h.at hn;refine⟨_,rfl,ho b hb hlt,fun j u hu=>?_⟩;rw[Jk,World.cell?_of_block (hk b hb hlt)];exact hc j u hu
theorem Rd.stayB(h:Rd w ok A xs)(hb:Below w.heap.size w w'):Rd w' ok A xs:=h.stay (fun b _ hlt=>hb.block b hlt) (fun _ h _=>h)
end
def Zv(l:List Str):List Value:=l.flatMap fun d=>d.map B
theorem Z1i(d:Str)(l:List Str):Zv (d :: l)=d.map B++Zv l:=by simp[Zv]
theorem Zd0(l:List Str)(d:Str):Zv (l++[d])=Zv l++d.map B:=by simp[Zv]
theorem Gz:∀ {l:List Str},hOk l->(Zv l).length=l.length*32
 | [],_=>rfl
 | d :: l,h=>by
  rw[Z1i,lY,Gz (l:=l) (fun x hx=>h x (by simp[hx])),lZ,h d (by simp),lH];omega
theorem Z6o:∀ {l:List Str},hOk l->∀ (k:Nat) (hk:k<l.length) (j:Nat) v,(l[k].map B)[j]?=some v->(Zv l)[k*32+j]?=some v
 | d :: l,h,0,hk,j,v,hv=>by
  rw[Z1i,l3 (by have:=(lT.1 hv).1;simpa using this)];simpa using hv
 | d :: l,h,k+1,hk,j,v,hv=>by
  have hd:(d.map B).length=32:=by rw[lZ];exact h d (by simp)
  rw[Z1i,nO (by omega),hd,show (k+1)*32+j - 32=k*32+j by omega];exact Z6o (l:=l) (fun x hx=>h x (by simp[hx])) k (by simpa using hk) j v (by simpa using hv)
theorem Z3d(l:List Str):∀ v ∈ Zv l,v.oneCell'=true:=by
 intro v hv;unfold Zv at hv;obtain⟨d,_,hd⟩:=List.mem_flatMap.1 hv;obtain⟨x,_,rfl⟩:=n8.1 hd;rfl
def Ze(w:World)(ok:Nat->Prop)(v:Value)(l:List Str):Prop:=∃ A c,v=.slice A l.length c/\l.length<=c/\Rd w ok A (Zv l)
structure HFit (l:List Str):Prop where
 len:l.length<=4398046511104
 ok:hOk l
section
variable {w w':World} {ok ok':Nat->Prop} {v:Value} {l:List Str}
theorem Ze.stay(h:Ze w ok v l)(hk:∀ b,ok b->b<w.heap.size->w'.heap[b]?=w.heap[b]?)(ho:∀ b,ok b->b<w.heap.size->ok' b):Ze w' ok' v l:=by
 obtain⟨A,c,e,hc,hr⟩:=h;exact⟨A,c,e,hc,hr.stay hk ho⟩
theorem Ze.stayB(h:Ze w ok v l)(hb:Below w.heap.size w w'):Ze w' ok v l:=h.stay (fun b _ hlt=>hb.block b hlt) (fun _ h _=>h)
theorem Ze.dig{A:Option Addr}{n c:Nat}(h:Ze w ok (.slice A n c) l)(ho:hOk l)(k:Nat)(hk:k<l.length):∃ b o,A=some ⟨b,o,none⟩/\ok b/\b<w.heap.size/\∀ j v,(l[k].map B)[j]?=some v->w.cell? ⟨b,o+k*32+j,none⟩=some v:=by
 obtain⟨A',c',e,hc,hr⟩:=h
 injection e with e1 e2 e3
 subst e1;obtain⟨b,o,rfl,hb,hlt,hcell⟩:=hr.at (by rw[Gz ho];omega);exact⟨b,o,rfl,hb,hlt,fun j v hv=>by rw[lJ];exact hcell _ v (Z6o ho k hk j v hv)⟩
end
def Jf:Tab->List Value->List Value
 | b :: T,v :: vs=>Z1 b.name :: v :: Jf T vs
 | _,_=>[]
theorem Z3e:∀ (T:Tab) (vs:List Value),vs.length=T.length->(Jf T vs).length=T.length*2
 | [],_,_=>by simp[Jf]
 | b :: T,[],h=>by simp at h
 | b :: T,v :: vs,h=>by
  simp only[Jf,lH,Z3e T vs (by simpa using h)];omega
theorem Z3f:∀ (T:Tab) (vs:List Value),vs.length=T.length->∀ k b v,T[k]?=some b->vs[k]?=some v->(Jf T vs)[k*2]?=some (Z1 b.name)/\(Jf T vs)[k*2+1]?=some v
 | [],_,_,k,b,v,h,_=>by simp at h
 | b :: T,[],h,_,_,_,_,_=>by simp at h
 | b :: T,v :: vs,h,0,b',v',h1,h2=>by
  simp only[l1,lR] at h1 h2;subst h1;subst h2;simp[Jf]
 | b :: T,v :: vs,h,k+1,b',v',h1,h2=>by
  have:=Z3f T vs (by simpa using h) k b' v' (by simpa using h1) (by simpa using h2);rw[show (k+1)*2=k*2+1+1 by omega];simpa[Jf] using this
theorem Z6p:∀ (T:Tab) (vs:List Value),vs.length=T.length->∀ T' vs',Jf (T++T') (vs++vs')=Jf T vs++Jf T' vs'
 | [],[],_,_,_=>rfl
 | [],_ :: _,h,_,_=>by simp at h
 | b :: T,[],h,_,_=>by simp at h
 | b :: T,v :: vs,h,T',vs'=>by simp[Jf,Z6p T vs (by simpa using h) T' vs']
def TabIs(w:World)(ok:Nat->Prop)(v:Value)(T:Tab):Prop:=∃ A c vs,vs.length=T.length/\v=.slice A T.length c/\T.length<=c/\Rd w ok A (Jf T vs)/\∀ (k:Nat) b u,T[k]?=some b->vs[k]?=some u->Ze w ok u b.heads
structure BFit (b:Br):Prop where
 name:b.name.length<=140737488355328
 heads:HFit b.heads
structure TFit (T:Tab):Prop where
 len:T.length<=3518437208832
 ok:∀ b ∈ T,BFit b
section
variable {w w':World} {ok ok':Nat->Prop} {v:Value} {T:Tab}
theorem TabIs.stay(h:TabIs w ok v T)(hk:∀ b,ok b->b<w.heap.size->w'.heap[b]?=w.heap[b]?)(ho:∀ b,ok b->b<w.heap.size->ok' b):TabIs w' ok' v T:=by
 obtain⟨A,c,vs,hl,e,hc,hr,hh⟩:=h;exact⟨A,c,vs,hl,e,hc,hr.stay hk ho,fun k b u h1 h2=>(hh k b u h1 h2).stay hk ho⟩
theorem TabIs.stayB(h:TabIs w ok v T)(hb:Below w.heap.size w w'):TabIs w' ok v T:=h.stay (fun b _ hlt=>hb.block b hlt) (fun _ h _=>h)
theorem TabIs.form(h:TabIs w ok v T):∃ A c,v=.slice A T.length c/\T.length<=c:=by
 obtain⟨A,c,vs,hl,e,hc,_⟩:=h;exact⟨A,c,e,hc⟩
theorem TabIs.nil:TabIs w ok (.slice none 0 0) []:=⟨none,0,[],rfl,rfl,lP _,Rd.nil,fun k b u h _=>by simp at h⟩
theorem Ze.nil:Ze w ok (.slice none 0 0) []:=⟨none,0,rfl,lP _,Rd.nil⟩
theorem TabIs.br{A:Option Addr}{n c:Nat}(h:TabIs w ok (.slice A n c) T)(k:Nat)(hk:k<T.length):∃ b o u,A=some ⟨b,o,none⟩/\ok b/\b<w.heap.size/\Ze w ok u T[k].heads/\w.cell? ⟨b,o+k*2,none⟩=some (Z1 T[k].name)/\w.cell? ⟨b,o+k*2+1,none⟩=some u:=by
 obtain⟨A',c',vs,hl,e,hc,hr,hh⟩:=h
 injection e with e1 e2 e3
 subst e1;obtain⟨b,o,rfl,hb,hlt,hcell⟩:=hr.at (by rw[Z3e T vs hl];omega);have hv:vs[k]?=some vs[k]:=lV (by omega);have hT:T[k]?=some T[k]:=lV hk;obtain⟨h1,h2⟩:=Z3f T vs hl k _ _ hT hv;exact⟨b,o,vs[k],rfl,hb,hlt,hh k _ _ hT hv,hcell _ _ h1,by have:=hcell _ _ h2;rwa [<- lJ] at this⟩
end
section
variable {w w':World} {ok:Nat->Prop} {v:Value}
theorem TabIs.ltB{T:Tab}(h:TabIs w ok v T):TabIs w (· < w.heap.size) v T:=h.stay (fun _ _ _=>rfl) (fun _ _ hlt=>hlt)
theorem Ze.low{B:Nat}{l:List Str}(h:Ze w (· < B) v l)(hb:Below B w w'):Ze w' (· < B) v l:=h.stay (fun b hlt _=>hb.block b hlt) (fun _ h _=>h)
theorem TabIs.low{B:Nat}{T:Tab}(h:TabIs w (· < B) v T)(hb:Below B w w'):TabIs w' (· < B) v T:=h.stay (fun b hlt _=>hb.block b hlt) (fun _ h _=>h)
end
theorem Z00{w:World}{b o:Nat}{x y:Value}(h1:w.cell? ⟨b,o,none⟩=some x)(h2:w.cell? ⟨b,o+1,none⟩=some y):∀ j v,[x,y][j]?=some v->w.cell? ⟨b,o+j,none⟩=some v:=by
 intro j v hv
 match j,hv with
 | 0,hv=>simp only[l1,lR] at hv;subst hv;exact h1
 | 1,hv=>simp only[List.getElem?_cons_succ,l1,lR] at hv;subst hv;exact h2
def Qh:List Chg->List (Value × Value)->List Value
 | c :: C,v :: vs=>Z1 c.name :: v.1 :: v.2 :: Qh C vs
 | _,_=>[]
theorem Z6q:∀ (C:List Chg) (vs:List (Value × Value)),vs.length=C.length->(Qh C vs).length=C.length*3
 | [],_,_=>by simp[Qh]
 | b :: T,[],h=>by simp at h
 | b :: T,v :: vs,h=>by
  simp only[Qh,lH,Z6q T vs (by simpa using h)];omega
theorem Z6r:∀ (C:List Chg) (vs:List (Value × Value)),vs.length=C.length->∀ k b v,C[k]?=some b->vs[k]?=some v->∀ j u,[Z1 b.name,v.1,v.2][j]?=some u->(Qh C vs)[k*3+j]?=some u
 | [],_,_,k,b,v,h,_=>by simp at h
 | b :: T,[],h,_,_,_,_,_=>by simp at h
 | b :: T,v :: vs,h,0,b',v',h1,h2=>by
  simp only[l1,lR] at h1 h2;subst h1;subst h2;intro j u hu
  match j,hu with
  | 0,hu=>simpa[Qh] using hu
  | 1,hu=>simpa[Qh] using hu
  | 2,hu=>simpa[Qh] using hu
 | b :: T,v :: vs,h,k+1,b',v',h1,h2=>by
  intro j u hu;have:=Z6r T vs (by simpa using h) k b' v' (by simpa using h1) (by simpa using h2) j u hu;rw[show (k+1)*3+j=k*3+j+1+1+1 by omega];simpa[Qh] using this
def Yx(w:World)(ok:Nat->Prop)(v:Value)(C:List Chg):Prop:=∃ A c vs,vs.length=C.length/\v=.slice A C.length c/\C.length<=c/\Rd w ok A (Qh C vs)/\∀ (k:Nat) b u,C[k]?=some b->vs[k]?=some u->Ze w ok u.1 b.old/\Ze w ok u.2 b.new
structure CFit1 (c:Chg):Prop where
 name:c.name.length<=140737488355328
 old:HFit c.old
 new:HFit c.new
structure CFit (C:List Chg):Prop where
 len:C.length<=2199023255552
 ok:∀ c ∈ C,CFit1 c
section
variable {w w':World} {ok ok':Nat->Prop} {v:Value} {C:List Chg}
theorem Yx.stay(h:Yx w ok v C)(hk:∀ b,ok b->b<w.heap.size->w'.heap[b]?=w.heap[b]?)(ho:∀ b,ok b->b<w.heap.size->ok' b):Yx w' ok' v C:=by
 obtain⟨A,c,vs,hl,e,hc,hr,hh⟩:=h;exact⟨A,c,vs,hl,e,hc,hr.stay hk ho,fun k b u h1 h2=>⟨(hh k b u h1 h2).1.stay hk ho,(hh k b u h1 h2).2.stay hk ho⟩⟩
theorem Yx.stayB(h:Yx w ok v C)(hb:Below w.heap.size w w'):Yx w' ok v C:=h.stay (fun b _ hlt=>hb.block b hlt) (fun _ h _=>h)
theorem Yx.form(h:Yx w ok v C):∃ A c,v=.slice A C.length c/\C.length<=c:=by
 obtain⟨A,c,vs,hl,e,hc,_⟩:=h;exact⟨A,c,e,hc⟩
theorem Yx.ch{A:Option Addr}{n c:Nat}(h:Yx w ok (.slice A n c) C)(k:Nat)(hk:k<C.length):∃ b o x y,A=some ⟨b,o,none⟩/\ok b/\b<w.heap.size/\Ze w ok x C[k].old/\Ze w ok y C[k].new/\∀ j u,[Z1 C[k].name,x,y][j]?=some u->w.cell? ⟨b,o+k*3+j,none⟩=some u:=by
 obtain⟨A',c',vs,hl,e,hc,hr,hh⟩:=h
 injection e with e1 e2 e3
 subst e1;obtain⟨b,o,rfl,hb,hlt,hcell⟩:=hr.at (by rw[Z6q C vs hl];omega);have hv:vs[k]?=some vs[k]:=lV (by omega);have hT:C[k]?=some C[k]:=lV hk;have h1:=Z6r C vs hl k _ _ hT hv;exact⟨b,o,vs[k].1,vs[k].2,rfl,hb,hlt,(hh k _ _ hT hv).1,(hh k _ _ hT hv).2,fun j u hu=>by rw[lJ];exact hcell _ _ (h1 j u hu)⟩
end
section
variable {w w':World} {ok:Nat->Prop} {v:Value} {C:List Chg}
theorem Yx.ltB(h:Yx w ok v C):Yx w (· < w.heap.size) v C:=h.stay (fun _ _ _=>rfl) (fun _ _ hlt=>hlt)
theorem Yx.low{B:Nat}(h:Yx w (· < B) v C)(hb:Below B w w'):Yx w' (· < B) v C:=h.stay (fun b hlt _=>hb.block b hlt) (fun _ h _=>h)
end
theorem Z1j{a b c d:Value}(h1:a=c)(h2:b=d):bB (.tuple #[a,b])=.returned (.tuple #[c,d]):=by rw[h1,h2]
theorem Zg{d:Str}(h:d.length=32):(lA.info? 59).map (·.size)=some (d.map B).length:=by rw[lZ,h];kernel_rfl
theorem Q2:(lA.info? 205).map (·.size)=some 2:=by kernel_rfl
theorem U9:(lA.info? 177).map (·.size)=some 3:=by kernel_rfl
end
section
open Go.RowKit
theorem Z6s:∀ {l:List Str},(∀ j,j+1<l.length->Zt (l.getD j []) (l.getD (j+1) [])=true)->Ko l=true
 | [],_=>rfl
 | [_],_=>rfl
 | a :: b :: r,h=>by
  have h0:=h 0 (by simp);have ih:Ko (b :: r)=true:=Z6s fun j hj=>by have:=h (j+1) (by simpa using hj);simpa using this
  simp only[Ko,lF];exact⟨by simpa using h0,ih⟩
theorem Z6t:∀ {l:List Str} {k:Nat},k+1<l.length->Zt (l.getD k []) (l.getD (k+1) [])=false->Ko l=false
 | [],_,h,_=>by simp at h
 | [_],_,h,_=>by simp at h
 | a :: b :: r,0,_,h=>by simp only[Ko,Bool.and_eq_false_iff];left;simpa using h
 | a :: b :: r,k+1,hk,h=>by
  simp only[Ko,Bool.and_eq_false_iff];right;exact Z6t (l:=b :: r) (k:=k) (by simpa using hk) (by simpa using h)
theorem Ua{a b:Int}(h:a=b):bB (.int .i64 a)=.returned (.int .i64 b):=by rw[h]
theorem Z6u(l:List Str)(v:Value)(ok:Nat->Prop)(w:World)(h:Ze w ok v l)(hf:HFit l) :
    Calls lA 305 #[v] w fun e w'=>e=.returned (.int .i64 (Yp l))/\Below w.heap.size w w':=by
  obtain⟨A,c,rfl,hc,hr⟩:=h;have hH:Ze w ok (.slice A l.length c) l:=⟨A,c,rfl,hc,hr⟩;have hlen:l.length<=4398046511104:=hf.len;have hok:=iD hf.ok;clear hr hc hf;by_cases h8:8<l.length
  · have he:Hid (Yp l=4):=iD (by unfold Yp;rw[if_pos h8])
    go_enter func305,ntmps305;go_wp2;go_ret;exact⟨Ua he.out.symm,lO _ _⟩
  · have h8':l.length<=8:=by omega
    have he:Hid (Yp l=if Ko l then 0 else 7):=iD (by unfold Yp;rw[if_neg h8]);replace hH:=iD hH;clear h8;go_enter func305,ntmps305;go_wp2;go_loopw [9] (fun i wr=>∃ k:Nat,k<=l.length/\i=.int .i64 k/\Hid (∀ j,j+1<k->Zt (l.getD j []) (l.getD (j+1) [])=true)/\Below w.heap.size w wr) (fun i _=>l.length - (intOf i).toNat)
    case atStart=>exact⟨0,nF _,rfl,iD (fun j hj=>by omega),lO _ _⟩
    case round =>
      obtain⟨k,hk,rfl,hr,hb⟩:=hrel;by_cases hlt:k<l.length
      · by_cases hk0:k=0
        · subst hk0
          have g0:decide (0<((0:Nat):Int))=false:=by simp
          go_wp2;go_quiet (fail);go_wp2;go_roundw
          case rel=>exact⟨1,by omega,by go_num,iD (fun j hj=>by omega),kA hb nq⟩
          case measure=>simp[intOf];omega
        · have hk1:0<k:=by omega
          obtain⟨b,o,rfl,_,hbl,hc2⟩:=hH.out.dig hok.out k hlt;obtain⟨b',o',e',_,_,hc1⟩:=hH.out.dig hok.out (k - 1) (by omega);cases e'
          obtain⟨x,hx⟩:∃ x,x=l[k - 1]:=⟨_,rfl⟩;obtain⟨y,hy⟩:∃ y,y=l[k]:=⟨_,rfl⟩;have hxl:x.length=32:=by rw[hx];exact hok.out _ (bC _)
          have hyl:y.length=32:=by rw[hy];exact hok.out _ (bC _)
          rw[<-hx] at hc1;rw[<-hy] at hc2;have hxy:Hid (Zt (l.getD (k - 1) []) (l.getD (k - 1+1) [])=Zt x y):=iD (by
            rw[hx,hy,Nat.sub_add_cancel hk1];simp[hlt,show k - 1<l.length by omega])
          have hc1':∀ s:Xc wr,∀ j v,(x.map B)[j]?=some v->s.1.cell? ⟨b,o+(k - 1)*32+j,none⟩=some v:=fun s j v hv=>by
            rw[(hb.trans (s.2.mono hb.size)).cell (p:=⟨b,_,none⟩) hbl];exact hc1 j v hv
          have hc2':∀ s:Xc wr,∀ j v,(y.map B)[j]?=some v->s.1.cell? ⟨b,o+k*32+j,none⟩=some v:=fun s j v hv=>by
            rw[(hb.trans (s.2.mono hb.size)).cell (p:=⟨b,_,none⟩) hbl];exact hc2 j v hv
          have hcall:=iD (Zcl x y hxl hyl);have hsx:=iD (Zg hxl);have hsy:=iD (Zg hyl);replace hc1':=iD hc1';replace hc2':=iD hc2';clear hx hy hc1 hc2 hxl hyl;obtain⟨t,ht⟩:∃ t,t=Zt x y:=⟨_,rfl⟩;rw[<-ht] at hxy hcall;clear ht;have g0:decide (0<(k:Int))=true:=by simpa using hk1
          have e1:IntKind.i64.wrap ((k:Int) - 1)=(k:Int) - 1:=IntWalk.i64_in _ (by omega);have e2:(0:Int)<=(k:Int) - 1:=by omega
          have e3:(k:Int) - 1<(l.length:Int):=by omega
          have e4:((k:Int) - 1).toNat=k - 1:=by omega
          have i1:(0:Int)<=(k:Int):=by omega
          have i2:(k:Int)<(l.length:Int):=by omega
          haveI:=Qr wr;go_wp2;refine Kn (by kernel_rfl) (by kernel_rfl) ?_;repeat (first
            | (refine Z1h 59 (.tmp 18) rfl rfl b (o+(k - 1)*32) rfl (x.map B) (fun w hw=>?_) _ underlying59 rfl hsx.out ?_
               · obtain⟨s,rfl⟩:=hw
                 exact hc1'.out s
               go_frame)
            | (refine Z1h 59 (.tmp 22) rfl rfl b (o+k*32) rfl (y.map B) (fun w hw=>?_) _ underlying59 rfl hsy.out ?_
               · obtain⟨s,rfl⟩:=hw
                 exact hc2'.out s
               go_frame)
            | go_big_quiet_step ((go_at_call 141;exact Vj _ (hcall.out _))))
          refine nM ?_;rintro _ ⟨s,rfl⟩;have hb2:=hb.trans (s.2.mono hb.size);obtain⟨w2,hw2⟩:=s;dsimp only at hb2 ⊢;clear this hw2 hcall hc1' hc2';cases t with
          | true =>
            go_wp2;go_roundw
            case rel =>
              refine⟨k+1,by omega,by go_num,iD (fun j hj=>?_),hb2⟩;by_cases hjk:j+1<k
              · exact hr.out j hjk
              · obtain rfl:j=k - 1:=by omega
                exact hxy.out
            case measure=>simp[intOf];omega
          | false =>
            have hf:Hid (Ko l=false):=iD (Z6t (k:=k - 1) (by omega) hxy.out);go_wp2;go_ret;exact⟨Ua (by rw[he.out,hf.out];rfl),hb2⟩
      · obtain rfl:k=l.length:=by omega
        have hf:Hid (Ko l=true):=iD (Z6s hr.out);go_wp2;go_ret;exact⟨Ua (by rw[he.out,hf.out];rfl),hb⟩
end
section
open Go.RowKit
end
end
section
open Go.RowKit
structure PRef where
 own:Bool
 com:Str
 n:Int
structure POp where
 kind:Int
 left:Bool
 at_:PRef
 byte:UInt8
structure PCom where
 parents:List Str
 author:Str
 note:Str
 ops:List POp
def Yf:Str:=nL 32 0
def PRef.root(r:PRef):Bool:=!r.own && (r.com == Yf && r.n == 0)
def Oq(r:PRef):Bool:=if r.own then r.com == Yf && decide (0<r.n) else if r.root then true else decide (0<r.n) && decide (r.n<=2000)
def Z3(n:Nat):Str:=if h:128<=n then lL (n % 128+128) :: Z3 (n / 128) else [lL n]
termination_by n
decreasing_by omega
def Zr(s:Str):Str:=Z3 s.length++s
def opN(x:POp):Nat:=(if x.kind=2 then 1 else 0)+(if x.left then 2 else 0)
def atS(x:POp):Str:=if x.at_.own then Z3 (opN x+4)++Z3 x.at_.n.toNat else if x.at_.root then Z3 (opN x) else Z3 (opN x+8)++x.at_.com++Z3 x.at_.n.toNat
def opS(x:POp):Str:=atS x++(if x.kind=1 then [x.byte] else [])
def Yk(c:PCom):Str:=Z3 c.parents.length++c.parents.flatten++Zr c.author++Zr c.note++Z3 c.ops.length++c.ops.flatMap opS
theorem Ot{n:Nat}(h:128<=n):Z3 n=lL (n % 128+128) :: Z3 (n / 128):=by
 rw[Z3,dif_pos h]
theorem Xq{n:Nat}(h:n<128):Z3 n=[lL n]:=by
 rw[Z3,dif_neg (by omega)]
theorem Kf:∀ (k n:Nat),n<128 ^ k->(Z3 n).length<=k+1
 | 0,n,h=>by
  rw[Xq (by simp at h;omega)];simp
 | k+1,n,h=>by
  by_cases h1:128<=n
  ·rw[Ot h1,lH];have:=Kf k (n / 128) (by rw[Nat.div_lt_iff_lt_mul (by omega)];rwa [l6] at h);omega
  ·rw[Xq (by omega)];simp
def Z4(r:PRef):List Value:=.bool r.own :: (r.com.map B++[.int .i64 r.n])
def Z9(x:POp):List Value:=.int .i64 x.kind :: .bool x.left :: (Z4 x.at_++[B x.byte])
def Yg(l:List POp):List Value:=l.flatMap Z9
structure OpFit (x:POp):Prop where
 com:x.at_.com.length=32
 n0:-9223372036854775808<=x.at_.n
 n1:x.at_.n<=9223372036854775807
 k0:-9223372036854775808<=x.kind
 k1:x.kind<=9223372036854775807
theorem Jo{x:POp}(h:OpFit x):(Z9 x).length=37:=by
 simp[Z9,Z4,h.com]
theorem Z3g:∀ {l:List POp},(∀ x ∈ l,OpFit x)->(Yg l).length=l.length*37
 | [],_=>rfl
 | x :: l,h=>by
  have e:Yg (x :: l)=Z9 x++Yg l:=rfl;rw[e,lY,Jo (h x (by simp)),Z3g (fun y hy=>h y (by simp[hy])),lH];omega
theorem Z6v:∀ {l:List POp},(∀ x ∈ l,OpFit x)->∀ (k:Nat) (hk:k<l.length) (j:Nat) v,(Z9 l[k])[j]?=some v->(Yg l)[k*37+j]?=some v
 | x :: l,h,0,hk,j,v,hv=>by
  have e:Yg (x :: l)=Z9 x++Yg l:=rfl;rw[e,l3 (by have:=(lT.1 hv).1;simpa using this)];simpa using hv
 | x :: l,h,k+1,hk,j,v,hv=>by
  have e:Yg (x :: l)=Z9 x++Yg l:=rfl;have hd:=Jo (h x (by simp));rw[e,nO (by omega),hd,show (k+1)*37+j - 37=k*37+j by omega];exact Z6v (l:=l) (fun y hy=>h y (by simp[hy])) k (by simpa using hk) j v (by simpa using hv)
def Zl(w:World)(ok:Nat->Prop)(v:Value)(l:List POp):Prop:=∃ (A:Option Addr) (c:Nat),v=.slice A l.length c/\l.length<=c/\Rd w ok A (Yg l)
structure OsFit (l:List POp):Prop where
 len:l.length<=1759218604441
 ok:∀ x ∈ l,OpFit x
theorem Zl.stay{w w':World}{ok ok':Nat->Prop}{v:Value}{l:List POp}(h:Zl w ok v l)(hk:∀ b,ok b->b<w.heap.size->w'.heap[b]?=w.heap[b]?)(ho:∀ b,ok b->b<w.heap.size->ok' b):Zl w' ok' v l:=by
 obtain⟨A,c,e,hc,hr⟩:=h;exact⟨A,c,e,hc,hr.stay hk ho⟩
theorem Zl.stayB{w w':World}{ok:Nat->Prop}{v:Value}{l:List POp}(h:Zl w ok v l)(hb:Below w.heap.size w w'):Zl w' ok v l:=h.stay (fun b _ hlt=>hb.block b hlt) (fun _ h _=>h)
theorem Zl.op{w:World}{ok:Nat->Prop}{A:Option Addr}{n c:Nat}{l:List POp}(h:Zl w ok (.slice A n c) l)(ho:∀ x ∈ l,OpFit x)(k:Nat)(hk:k<l.length):∃ b o,A=some ⟨b,o,none⟩/\ok b/\b<w.heap.size/\∀ j v,(Z9 l[k])[j]?=some v->w.cell? ⟨b,o+k*37+j,none⟩=some v:=by
 obtain⟨A',c',e,hc,hr⟩:=h
 injection e with e1 e2 e3
 subst e1;obtain⟨b,o,rfl,hb,hlt,hcell⟩:=hr.at (by rw[Z3g ho];omega);exact⟨b,o,rfl,hb,hlt,fun j v hv=>by rw[lJ];exact hcell _ v (Z6v ho k hk j v hv)⟩
end
section
def Kr(i sum:Nat):Str->Option (Nat × Str)
 | []=>none
 | x :: r=>if 128<=x.toNat/\i+1=9 then none else if x.toNat=0/\0<i then none else if 128<=x.toNat then Kr (i+1) (sum+x.toNat % 128*128 ^ i) r else some (sum+x.toNat*128 ^ i,r)
def Yw(s:Str):Option (Nat × Str):=Kr 0 0 s
theorem u8of(n:Nat)(h:n<256):(lL n).toNat=n:=by simp[UInt8.toNat_ofNat'];omega
theorem Z3h(i:Nat):0<128 ^ i:=Nat.pow_pos (by omega)
theorem Zd1(r:Str):∀ (k n i sum:Nat),n<=k->i<9->(i=0 ∨ 0<n)->n<128 ^ (9 - i)->Kr i sum (Z3 n++r)=some (sum+n*128 ^ i,r):=by
 intro k;induction k with
 | zero =>
  intro n i sum hk hi h0 hn;obtain rfl:n=0:=by omega
  have hi0:i=0:=by omega
  subst hi0;rw[Xq (by omega)];simp[Kr]
 | succ k ih =>
  intro n i sum hk hi h0 hn;by_cases hb:128<=n
  ·rw[Ot hb,bD,Kr,u8of _ (by omega)];have hi7:i+1 ≠ 9:=by
    intro e;obtain rfl:i=8:=by omega
    simp at hn;omega
   rw[if_neg (by omega),if_neg (by omega),if_pos (by omega),show (n % 128+128) % 128=n % 128 by omega];have hp:128 ^ (9 - i)=128*128 ^ (9 - (i+1)):=by
    rw[show 9 - i=(9 - (i+1))+1 by omega,l6,nP]
   rw[ih (n / 128) (i+1) _ (by omega) (by omega) (.inr (by omega)) (by rw[hp] at hn;exact (Nat.div_lt_iff_lt_mul (by omega)).2 (by omega))];have e:n % 128*128 ^ i+n / 128*128 ^ (i+1)=n*128 ^ i:=by
    rw[l6,show n / 128*(128 ^ i*128)=n / 128*128*128 ^ i by rw[kF,nP 128]];rw[<-Nat.add_mul]
    congr 1
    omega
   rw[lJ,e]
  ·rw[Xq (by omega),bD,List.nil_append,Kr,u8of _ (by omega)];rw[if_neg (by omega),if_neg (by omega),if_neg (by omega)]
theorem Ou{n:Nat}(h:n<128 ^ 9)(r:Str):Yw (Z3 n++r)=some (n,r):=by
 have:=Zd1 r n n 0 0 (lP _) (by omega) (.inl rfl) h;simpa[Yw] using this
theorem Z6w:∀ (s:Str) (i sum m:Nat) (r:Str),i<9->Kr i sum s=some (m,r)->∃ n,m=sum+n*128 ^ i/\s=Z3 n++r/\(i=0 ∨ 0<n)/\n<128 ^ (9 - i)
 | [],i,sum,m,r,_,h=>by simp[Kr] at h
 | x :: s,i,sum,m,r,hi,h=>by
  have hx:=x.toNat_lt;have hxe:lL x.toNat=x:=UInt8.ofNat_toNat;rw[Kr] at h;split at h
  ·cases h
  ·rename_i h1;split at h
   ·cases h
   ·rename_i h2;split at h
    ·rename_i h3;have hi8:i+1<9:=by omega
     obtain⟨n,e,hs,hp,hn⟩:=Z6w s (i+1) _ m r hi8 h;have hn0:0<n:=by omega
     refine⟨x.toNat % 128+128*n,?_,?_,.inr (by omega),?_⟩
     ·rw[e,lJ,Nat.add_mul,l6]
      congr 2
      rw[<-kF,nP (n*128 ^ i) 128,kF]
     ·have e1:(x.toNat % 128+128*n) % 128+128=x.toNat:=by omega
      have e2:(x.toNat % 128+128*n) / 128=n:=by omega
      rw[Ot (by omega),e1,e2,hxe,hs];rfl
     ·have hpw:128 ^ (9 - i)=128*128 ^ (9 - (i+1)):=by
       rw[show 9 - i=(9 - (i+1))+1 by omega,l6,nP]
      rw[hpw];omega
    ·rename_i h3
     injection h with h
     injection h with ha hb
     refine⟨x.toNat,ha.symm,?_,by omega,?_⟩
     ·rw[Xq (by omega),hb,hxe];rfl
     ·have : 128 ^ 1<=128 ^ (9 - i):=Nat.pow_le_pow_right (by omega) (by omega);omega
theorem Ov{s r:Str}{n:Nat}(h:Yw s=some (n,r)):s=Z3 n++r/\n<128 ^ 9:=by
 obtain⟨m,e,hs,_,hm⟩:=Z6w s 0 0 n r (by omega) h;have : n=m:=by simpa using e
 subst this;exact⟨hs,hm⟩
def Yy(each most:Nat)(s:Str):Option (Str × Str) :=
 match Yw s with
 | none=>none
 | some (n,r)=>if most<n then none else if r.length<n*each then none else some (r.take (n*each),r.drop (n*each))
theorem Ow{each most n:Nat}{t r:Str}(hn:n<128 ^ 9)(hm:n<=most)(ht:t.length=n*each):Yy each most (Z3 n++(t++r))=some (t,r):=by
 unfold Yy;rw[Ou hn];simp only;rw[if_neg (by omega),if_neg (by rw[lY];omega),bE ht,bF ht]
theorem Z3i{each most:Nat}{s t r:Str}(h:Yy each most s=some (t,r)):∃ n,n<128 ^ 9/\n<=most/\t.length=n*each/\s=Z3 n++(t++r):=by
 unfold Yy at h;cases hg:Yw s with
 | none=>rw[hg] at h;cases h
 | some q =>
  obtain⟨n,r'⟩:=q;rw[hg] at h;simp only at h;split at h
  ·cases h
  ·split at h
   ·cases h
   ·injection h with h
    injection h with h1 h2
    obtain⟨hs,hn⟩:=Ov hg;refine⟨n,hn,by omega,by rw[<-h1,kZ];omega,?_⟩;rw[hs,<-h1,<-h2,List.take_append_drop]
def K8:Nat->Str->List Str
 | 0,_=>[]
 | n+1,s=>s.take 32 :: K8 n (s.drop 32)
theorem Qu:∀ {l:List Str},(∀ d ∈ l,d.length=32)->l.flatten.length=l.length*32
 | [],_=>rfl
 | d :: l,h=>by
  rw[List.flatten_cons,lY,Qu (fun x hx=>h x (by simp[hx])),h d (by simp),lH];omega
theorem Z3j:∀ {l:List Str},(∀ d ∈ l,d.length=32)->K8 l.length l.flatten=l
 | [],_=>rfl
 | d :: l,h=>by
  have hd:=h d (by simp);rw[lH,List.flatten_cons,K8,bE hd,bF hd,Z3j (fun x hx=>h x (by simp[hx]))]
structure PMsg where
 kind:Int
 ses:Int
 name:Str
 old:List Str
 new:List Str
 pack:Str
 code:Int
def Xr:PMsg:=⟨0,0,[],[],[],[],0⟩
def Vo(k:Int):Bool:=k == 1 || k == 3
def Jp(k:Int):Bool:=k == 2 || k == 3
def Kg(k:Int):Bool:=k == 2 || k == 4
def Yc(m:PMsg):Int :=
 if m.kind<1 ∨ 4<m.kind ∨ m.ses<0 ∨ m.code<0 then 1
 else if Z6 m.name=false then 11
 else if 256<m.old.length ∨ 256<m.new.length then 4
 else if 1048576<m.pack.length then 3
 else if (Vo m.kind=false/\m.old ≠ []) ∨ (Jp m.kind=false/\m.new ≠ []) ∨ (Jp m.kind=false/\m.pack ≠ []) ∨ (Kg m.kind=false/\m.code ≠ 0) then 7
 else 0
def Ks(l:List Str):Str:=Z3 l.length++l.flatten
def K9(m:PMsg):Str:=Z3 m.kind.toNat++(Z3 m.ses.toNat++(Zr m.name++(Ks m.old++(Ks m.new++(Zr m.pack++Z3 m.code.toNat)))))
def Ox(s:Str):Option PMsg :=
 match Yw s with
 | none=>none
 | some (kind,s1)=>match Yw s1 with
  | none=>none
  | some (ses,s2)=>match Yy 1 131072 s2 with
   | none=>none
   | some (name,s3)=>match Yy 32 256 s3 with
    | none=>none
    | some (old,s4)=>match Yy 32 256 s4 with
     | none=>none
     | some (new,s5)=>match Yy 1 1048576 s5 with
      | none=>none
      | some (pack,s6)=>match Yw s6 with
       | none=>none
       | some (code,s7)=>if s7=[] then (if Yc ⟨kind,ses,name,K8 (old.length / 32) old,K8 (new.length / 32) new,pack,code⟩=0 then some ⟨kind,ses,name,K8 (old.length / 32) old,K8 (new.length / 32) new,pack,code⟩ else none) else none
structure MFit (m:PMsg):Prop where
 kind:m.kind<128 ^ 9
 ses:m.ses<128 ^ 9
 code:m.code<128 ^ 9
 old:∀ d ∈ m.old,d.length=32
 new:∀ d ∈ m.new,d.length=32
theorem Z1k{m:PMsg}(h:Yc m=0):1<=m.kind/\m.kind<=4/\0<=m.ses/\0<=m.code/\Z6 m.name=true/\m.old.length<=256/\m.new.length<=256/\m.pack.length<=1048576:=by
 unfold Yc at h;split at h
 ·cases h
 ·split at h
  ·cases h
  ·split at h
   ·cases h
   ·split at h
    ·cases h
    ·split at h
     ·cases h
     ·rename_i h1 h2 h3 h4 h5;refine⟨by omega,by omega,by omega,by omega,by simpa using h2,by omega,by omega,by omega⟩
theorem Zd2{m:PMsg}(h:Yc m=0)(hf:MFit m)(hn:m.name.length<=131072):Ox (K9 m)=some m:=by
 obtain⟨k0,k1,s0,c0,_,o1,n1,p1⟩:=Z1k h;have hk:=hf.kind;have hs:=hf.ses;have hc:=hf.code;have hp9:(128:Nat) ^ 9=9223372036854775808:=by decide
 have hpi:(128:Int) ^ 9=9223372036854775808:=by decide
 unfold Ox K9 Zr Ks;rw[Ou (by omega)];simp only;rw[Ou (by omega)];simp only[List.append_assoc];rw[Ow (by omega) hn (by omega)];simp only;rw[Ow (by omega) o1 (Qu hf.old)];simp only;rw[Ow (by omega) n1 (Qu hf.new)];simp only;rw[Ow (by omega) p1 (by omega)];simp only;have e:=Ou (n:=m.code.toNat) (by omega) [];rw[List.append_nil] at e;rw[e];simp only;rw[Qu hf.old,Qu hf.new,bG _ (by omega),bG _ (by omega),Z3j hf.old,Z3j hf.new];have hm:(⟨(m.kind.toNat:Int),(m.ses.toNat:Int),m.name,m.old,m.new,m.pack,(m.code.toNat:Int)⟩:PMsg)=m:=by
  rw[kG (by omega),kG s0,kG c0]
 rw[hm,if_pos trivial,if_pos h]
end
section
def be32(a b c d:UInt8):UInt32:=shl (b2w a) 24 ||| shl (b2w b) 16 ||| shl (b2w c) 8 ||| b2w d
def sig0(x:UInt32):UInt32:=Kc x 7 ^^^ Kc x 18 ^^^ shr x 3
def sig1(x:UInt32):UInt32:=Kc x 17 ^^^ Kc x 19 ^^^ shr x 10
def Sig1(e:UInt32):UInt32:=Kc e 6 ^^^ Kc e 11 ^^^ Kc e 25
def Sig0(a:UInt32):UInt32:=Kc a 2 ^^^ Kc a 13 ^^^ Kc a 22
def chF(e f g:UInt32):UInt32:=(e &&& f) ^^^ (~~~e &&& g)
def majF(a b c:UInt32):UInt32:=(a &&& b) ^^^ (a &&& c) ^^^ (b &&& c)
def Z4e(blk:List UInt8)(i:Nat):UInt32:=be32 (blk.getD (4*i) 0) (blk.getD (4*i+1) 0) (blk.getD (4*i+2) 0) (blk.getD (4*i+3) 0)
def Z4f(ws:List UInt32)(i:Nat):UInt32:=ws.getD (i - 16) 0+sig0 (ws.getD (i - 15) 0)+ws.getD (i - 7) 0+sig1 (ws.getD (i - 2) 0)
def Xe(blk:List UInt8):Nat->List UInt32
 | 0=>[]
 | n+1=>Xe blk n++[if n<16 then Z4e blk n else Z4f (Xe blk n) n]
theorem G9(blk:List UInt8)(n:Nat):(Xe blk n).length=n:=by
 induction n with
 | zero=>rfl
 | succ n ih=>simp[Xe,ih]
theorem Zfy(blk:List UInt8)(n:Nat)(h:n<16):Xe blk (n+1)=Xe blk n++[Z4e blk n]:=by simp[Xe,h]
theorem Zfz(blk:List UInt8)(n:Nat)(h:16<=n):Xe blk (n+1)=Xe blk n++[Z4f (Xe blk n) n]:=by
 have : ¬ n<16:=by omega
 simp[Xe,this]
def Uj:List UInt32:=[
 0x428a2f98,0x71374491,0xb5c0fbcf,0xe9b5dba5,0x3956c25b,0x59f111f1,0x923f82a4,0xab1c5ed5,
 0xd807aa98,0x12835b01,0x243185be,0x550c7dc3,0x72be5d74,0x80deb1fe,0x9bdc06a7,0xc19bf174,
 0xe49b69c1,0xefbe4786,0x0fc19dc6,0x240ca1cc,0x2de92c6f,0x4a7484aa,0x5cb0a9dc,0x76f988da,
 0x983e5152,0xa831c66d,0xb00327c8,0xbf597fc7,0xc6e00bf3,0xd5a79147,0x06ca6351,0x14292967,
 0x27b70a85,0x2e1b2138,0x4d2c6dfc,0x53380d13,0x650a7354,0x766a0abb,0x81c2c92e,0x92722c85,
 0xa2bfe8a1,0xa81a664b,0xc24b8b70,0xc76c51a3,0xd192e819,0xd6990624,0xf40e3585,0x106aa070,
 0x19a4c116,0x1e376c08,0x2748774c,0x34b0bcb5,0x391c0cb3,0x4ed8aa4a,0x5b9cca4f,0x682e6ff3,
 0x748f82ee,0x78a5636f,0x84c87814,0x8cc70208,0x90befffa,0xa4506ceb,0xbef9a3f7,0xc67178f2]
structure St where
 a:UInt32
 b:UInt32
 c:UInt32
 d:UInt32
 e:UInt32
 f:UInt32
 g:UInt32
 h:UInt32
def st0:St:=⟨0x6a09e667,0xbb67ae85,0x3c6ef372,0xa54ff53a,0x510e527f,0x9b05688c,0x1f83d9ab,0x5be0cd19⟩
def tOf(k w:UInt32)(s:St):UInt32:=s.h+Sig1 s.e+chF s.e s.f s.g+k+w
def uOf(s:St):UInt32:=Sig0 s.a+majF s.a s.b s.c
def rnd(k w:UInt32)(s:St):St:=⟨tOf k w s+uOf s,s.a,s.b,s.c,s.d+tOf k w s,s.e,s.f,s.g⟩
def Ga(ws:List UInt32)(s:St):Nat->St
 | 0=>s
 | n+1=>rnd (Uj.getD n 0) (ws.getD n 0) (Ga ws s n)
def addS(v s:St):St:=⟨v.a+s.a,v.b+s.b,v.c+s.c,v.d+s.d,v.e+s.e,v.f+s.f,v.g+s.g,v.h+s.h⟩
def Vt(s:St)(blk:List UInt8):St:=addS (Ga (Xe blk 64) s 64) s
def St.list(s:St):List UInt32:=[s.a,s.b,s.c,s.d,s.e,s.f,s.g,s.h]
def St.cells(s:St):List Value:=s.list.map W
end
end Go.Proofs.YtefjlobdifjogaaGreatDoor
