import Derived.WalkKit
import Derived.WalkSpells
import Derived.WalkLawsBesides
import Derived.Below
import Derived.Laws.OwnMore
import Derived.Deep.Draws
import Derived.Laws.Rows
import Derived.Lib.Hide
import Derived.StillTailTactics
import Derived.Laws.CopyOwn
import Derived.Deep.MidRow
import Derived.StillTail
import Derived.Deep.Quiet
import Derived.Maps.RangeWalk
import Derived.Maps.AppendAt
import Derived.Deep.AppendLies
import Derived.RegionTactic
import Derived.OwnWalk
import Derived.Laws.BytesArg
import Derived.Lib.SlBytesConst
import Derived.BigQuiet
import Derived.Test.YtfdimggmljkkbaaGreatDoorRows
import Derived.Deep.WholeRow
import Derived.BigRegion
import Derived.Deep.QuietTactic
import Derived.LoopTactic
import Derived.IntWalk
import Derived.WalkSmall
import Derived.Laws.ResultCell
import Derived.Laws.StructEq
import Derived.ProofKit
import Derived.OpenShut
import Derived.Carry
import Derived.ChangeSame
import Derived.Deep.DeepHandedRow
open Array renaming replicate → nA, getElem?_eq_some_iff → nH, setIfInBounds_comm → nS
open BitVec renaming ofInt → lF, isLt → l0
open Bool renaming and_eq_true → lG
open Go renaming run_underlying → lI, ready_mono → lK, wpList_plain → lO, getD_both → lR, getD_set_ne → lS, getD_replicate_false → lW, yieldsIn_of_qOp → l8, run_sliceBound → nC, wpQuiet_nil → nN
open Go.Addr renaming add → l4
open Go.Builtin renaming append_ → lY, lenOf → nX, firstCells → nY
open Go.Code renaming region → lV
open Go.Instr renaming sliceAt → lL, sureAddr → lQ, sliceBounds → nB, index → nL, storeAt → nP, slice → nW
open Go.Op renaming equalIn → nO
open Go.Oper renaming wp → lP, quietAt → lX, quietUpon → l1
open Go.Proofs.Tryz renaming prog → lB
open Go.Region renaming ready → lA, Mode → lH, binds → lJ, noSelect → lT, lexHead → l7, lexTailB → l9, waitsFor → nG, noSelect_spec → nT, free_spec → nU, wanted → nV, free → n1
open Go.Result renaming andThen_ok → lC
open Go.RowKit.Below renaming refl → lM
open Go.Sem renaming run_bind → lD, run_pure → lE
open Go.Value renaming int → l2
open List renaming map_cons → lN, length_cons → lU, getElem?_eq_some_iff → l5, getElem?_drop → l6, map_map → nJ, replicate → nK, length_map → nM, map_nil → nZ, map_congr_left → n2, all_eq_true → n3, length_append → n4, drop_of_length_le → n5, drop_eq_getElem_cons → n6
open List.cons renaming injEq → nI
open Nat renaming mod_eq_of_lt → lZ, lt_or_ge → l3, add_assoc → nQ, zero_add → nR
open Option renaming map_some → nD
open Option.some renaming inj → n0
open UInt32 renaming ofNat → nE
open UInt8 renaming ofNat → nF
namespace Go.Proofs.YtfdimggmljkkbaaGreatDoor
section
section
open Go.RowKit
theorem bL{w:World}{o:Obj}:Below w.heap.size w (w.alloc o):=(lM _ _).alloc (Nat.le_refl _) _
def Blk(w:World)(g:Nat)(t:TypeId)(cs:List Value):Prop:=w.heap[g]?=some (.cells cs.toArray t (0,0))
section
variable {w w':World} {g:Nat} {t:TypeId} {cs:List Value}
theorem Blk.lt(h:Blk w g t cs):g<w.heap.size:=by
 rcases l3 g w.heap.size with hlt | hge
 ·exact hlt
 ·unfold Blk at h;rw[Array.getElem?_eq_none hge] at h;cases h
theorem Blk.cell(h:Blk w g t cs)(i:Nat):w.cell? ⟨g,i,none⟩=cs[i]?:=by
 rw[cell_of_row w g i cs.toArray t (0,0) h];simp
theorem Blk.frozen(h:Blk w g t cs)(i:Nat):w.frozen? ⟨g,i,none⟩=false:=by
 unfold Blk at h;simp[World.frozen?,h]
theorem Blk.new_at{w:World}{g:Nat}{t:TypeId}{cs:List Value}(h:g=w.heap.size):Blk (w.alloc (.cells cs.toArray t)) g t cs:=by
 subst h;exact heap_alloc_new w _
theorem Blk.drew(h:Blk w g t cs):Blk w.drew g t cs:=h
theorem Blk.drewN(h:Blk w g t cs)(n:Nat):Blk (w.drewN n) g t cs:=h
theorem Blk.alloc(h:Blk w g t cs)(o:Obj):Blk (w.alloc o) g t cs:=(Below.heap_alloc w o g h.lt).trans h
theorem Blk.set_(h:Blk w g t cs)(i:Nat)(u:Value):Blk (w.setCell ⟨g,i,none⟩ u) g t (cs.set i u):=by
 unfold Blk at h ⊢;simp[World.setCell,Array.getElem?_modify,h]
theorem Blk.far(h:Blk w g t cs){p:Addr}(hp:g ≠ p.block)(u:Value):Blk (w.setCell p u) g t cs:=(Below.heap_setCell w p u g hp).trans h
theorem Blk.setRow_same(h:Blk w g t cs)(cs':List Value):Blk (w.setRow g cs'.toArray) g t cs':=setRow_heap w g _ _ t _ h
theorem Blk.setRow_far(h:Blk w g t cs){g':Nat}(hg:g ≠ g')(c:Array Value):Blk (w.setRow g' c) g t cs:=(setRow_other w g' g c hg).trans h
theorem Blk.below{B:Nat}(h:Blk w g t cs)(hb:Below B w w')(hg:g<B):Blk w' g t cs:=(hb.block g hg).trans h
theorem Blk.grown{row:Option Nat}(h:Blk w g t cs)(hb:w.grownBy w' row)(hg:some g ≠ row):Blk w' g t cs:=(hb.block g h.lt hg).trans h
theorem Blk.ne_{g':Nat}{t':TypeId}{cs':List Value}(h:Blk w g t cs)(h':Blk w g' t' cs')(hne:t ≠ t'):g ≠ g':=by
 rintro rfl;unfold Blk at h h';rw[h] at h'
 injection h' with h'
 injection h' with _ ht
 exact hne ht
end
theorem Xj(g o j:Nat):(⟨g,o,none⟩:Addr).add j=⟨g,o+j,none⟩:=by unfold l4;split <;> simp_all
theorem U9{w:World}{g:Nat}{t:TypeId}{cs:List Value}(h:Blk w g t cs)(o:Nat)(l r:List Value)(hl:cs.drop o=l++r):∀ j v,l[j]?=some v->w.cell? ((⟨g,o,none⟩:Addr).add j)=some v:=by
 intro j v hv;rw[Xj,h.cell];have : (cs.drop o)[j]?=some v:=by
  rw[hl,List.getElem?_append_left (l5.1 hv).1];exact hv
 simpa[l6] using this
section
variable {P:Program}
theorem G4{ops:Array Oper}{rest:List Oper}{o:Oper}{a:Act}{w:World}{Q:Exit->Act->World->Prop}(op:Op)(_ho:o.op=op)(hgd:o.guard=none)(v:Value)
  (hrun:(execOp a.eval o).run P w=.ok (.value v) w) (h:wpList P ops Q rest (a.put o.dst v) w):wpList P ops Q (o :: rest) a w:=by
 refine lO hgd fun _ hK=>?_;unfold lP;rw[hrun];exact hK _ _ h
theorem Y0{ops:Array Oper}{rest:List Oper}{o:Oper}{a:Act}{w:World}{Q:Exit->Act->World->Prop}(hgd:o.guard=none)(ty:TypeId)(x:Operand)(ho:o.op=.load ty x)
  (g:Nat) (hx:a.eval x=.pointer (some ⟨g,0,none⟩)) (t:TypeId) (cs:List Value) (hg:Blk w g t cs) (d:TypeDesc)
  (hu:P.underlying ty=some d) (hd:(match d with | .struct _ | .array _ _=>true | _=>false)=true) (hi:(P.info? ty).map (·.size)=some cs.length)
  (h:wpList P ops Q rest (a.put o.dst (.agg cs.toArray)) w):wpList P ops Q (o :: rest) a w :=
 wpList_load_row hgd ty x ho g hx t cs.toArray (0,0) d hg hu hd (by simpa using hi) h
theorem Zo{ops:Array Oper}{rest:List Oper}{op:Oper}{a:Act}{w:World}{Q:Exit->Act->World->Prop}(hgd:op.guard=none)(ty:TypeId)(x y:Operand)(ho:op.op=.store ty x y)
  (g:Nat) (cells:List Value) (hx:a.eval x=.pointer (some ⟨g,0,none⟩)) (hy:a.eval y=.agg cells.toArray) (t:TypeId) (old:List Value) (hg:Blk w g t old) (hl:old.length=cells.length)
  (hi:(P.info? ty).map (·.size)=some cells.length) (h1:∀ v ∈ cells,v.oneCell'=true)
  (h:wpList P ops Q rest (a.put op.dst undef) (w.setRow g cells.toArray)):wpList P ops Q (op :: rest) a w:=by
 refine lO hgd fun _ hK=>?_;unfold lP execOp;simp only[ho,hx,hy,nP,lQ,lD,lE,lC,
  run_storeVar_row (P:=P) w g t ty old.toArray cells.toArray hg (by simpa using hi) (by simpa using hl) (all_oneCell_toArray h1)]
 exact hK _ _ h
theorem K3{ops:Array Oper}{rest:List Oper}{op:Oper}{a:Act}{w:World}{Q:Exit->Act->World->Prop}(hgd:op.guard=none)(ty:TypeId)(x:Operand)(ho:op.op=.load ty x)
  (g o:Nat) (hx:a.eval x=.pointer (some ⟨g,o,none⟩)) (t:TypeId) (cs part r:List Value) (hg:Blk w g t cs) (hp:cs.drop o=part++r) (d:TypeDesc)
  (hu:P.underlying ty=some d) (hd:d.isRow=true) (hi:(P.info? ty).map (·.size)=some part.length)
  (h:wpList P ops Q rest (a.put op.dst (.agg part.toArray)) w):wpList P ops Q (op :: rest) a w :=
 wpList_load_mid hgd ty x ho g o hx part d (fun j v hv=>by have:=U9 hg o part r hp j v hv;rwa [Xj] at this) hu hd hi h
theorem Z7n{ops:Array Oper}{rest:List Oper}{op:Oper}{a:Act}{w:World}{Q:Exit->Act->World->Prop}(hgd:op.guard=none)(ty:TypeId)(x y:Operand)(ho:op.op=.store ty x y)
  (g o:Nat) (cells:List Value) (hx:a.eval x=.pointer (some ⟨g,o,none⟩)) (hy:a.eval y=.agg cells.toArray) (t:TypeId) (old:List Value) (hg:Blk w g t old) (hl:o+cells.length<=old.length)
  (hi:(P.info? ty).map (·.size)=some cells.length) (h1:∀ v ∈ cells,v.oneCell'=true)
  (h:wpList P ops Q rest (a.put op.dst undef) (w.setRow g (splice old o cells).toArray)):wpList P ops Q (op :: rest) a w:=by
 refine lO hgd fun _ hK=>?_;have hst:=run_storeCells_at P g o t cells 0 old.toArray w hg (by simpa using hl) h1;cases hq:P.info? ty with
 | none=>simp[hq] at hi
 | some i =>
  have hs:cells.length=i.size:=by simp[hq] at hi;omega
  simp only[Nat.add_zero] at hst;have hrun:(storeVar ty ⟨g,o,none⟩ (.agg cells.toArray)).run P w=.ok () (w.setRow g (splice old o cells).toArray):=by
   simp[storeVar,sizeOf,typeInfo,hq,Value.cells,hs,hst,splice]
  unfold lP execOp;simp only[ho,hx,hy,nP,lQ,lD,lE,lC,hrun];exact hK _ _ h
theorem Z0q{fn:Func}{R:Ending->World->Prop}{a:Act}{w:World}{p:Tmp}{ty:TypeId}(hres:fn.results=#[.cell p ty])(g:Nat)(t:TypeId)(cs:List Value)(d:TypeDesc)
  (hp:a.tmps.getD p undef=.pointer (some ⟨g,0,none⟩)) (hg:Blk w g t cs) (hu:P.underlying ty=some d) (hd:(match d with | .struct _ | .array _ _=>true | _=>false)=true)
  (hi:(P.info? ty).map (·.size)=some cs.length) (hdef:a.defers=[]) (hR:R (.returned (.agg cs.toArray)) w):bodyPost P fn R .ret a w :=
 bodyPost_ret (results_cell_row hres a.tmps w g t cs.toArray (0,0) d hp hg hu hd (by simpa using hi)) hdef hR
end
theorem Z7o{P:Program}{w:World}{ops:Array Oper}{rest:List Oper}{o:Oper}{a:Act}{Q:Exit->Act->World->Prop}(hgd:o.guard=none)(d s:Operand)(dT sT:TypeId)
  (ho:o.op=.call { callee:=.builtin .copy,args:=#[d,s],argTypes:=#[dT,sT] }) (elem:TypeId) (hu:P.underlying dT=some (.slice elem)) (hsz:(P.info? elem).map (·.size)=some 1)
  (g off dLen dCap:Nat) (ad:Addr) (sLen sCap:Nat) (hd:a.eval d=.slice (some ⟨g,off,none⟩) dLen dCap) (hs:a.eval s=.slice (some ad) sLen sCap)
  (cur:List Value) (t:TypeId) (hg:Blk w g t cur) (cs:List Value) (hn:cs.length=Nat.min sLen dLen)
  (hsrc:∀ j v,cs[j]?=some v->w.cell? (ad.add j)=some v) (hfit:off+cs.length<=cur.length) (h1:∀ v ∈ cs,v.oneCell'=true)
  (h:wpList P ops Q rest (a.put o.dst (goInt cs.length)) (w.setRow g (splice cur off cs).toArray)):wpList P ops Q (o :: rest) a w :=
 wpList_copy_own hgd d s dT sT ho elem hu hsz g off dLen dCap ad sLen sCap hd hs cur.toArray t hg cs hn hsrc (by simpa using hfit) h1 h
end
section
open Go.RowKit
theorem Gs(a:Addr)(n:Nat):(a.add n).block=a.block:=by unfold l4;split <;> rfl
theorem Zeb(a:Addr)(i j:Nat):(a.add i).add j=a.add (i+j):=by
 unfold l4;by_cases hi:i=0 <;> by_cases hj:j=0 <;> simp[hi,hj,nQ]
def Rd(w:World)(ok:Nat->Prop)(A:Option Addr)(xs:List Value):Prop :=
 0<xs.length->∃ ad,A=some ad/\ok ad.block/\∀ j u,xs[j]?=some u->w.cell? (ad.add j)=some u
section
variable {w w':World} {ok ok':Nat->Prop} {A:Option Addr} {xs:List Value}
theorem Rd.nil:Rd w ok A []:=fun h=>absurd h (by simp)
theorem Rd.keep(h:Rd w ok A xs)(hk:∀ p:Addr,ok p.block->w'.cell? p=w.cell? p):Rd w' ok A xs:=fun hn=>by
 obtain⟨ad,e,hb,hc⟩:=h hn;exact⟨ad,e,hb,fun j u hu=>(hk _ (by rw[Gs];exact hb)).trans (hc j u hu)⟩
theorem Rd.weak(h:Rd w ok A xs)(hk:∀ b,b<w.heap.size->ok b->ok' b):Rd w ok' A xs:=fun hn=>by
 obtain⟨ad,e,hb,hc⟩:=h hn;refine⟨ad,e,hk _ ?_ hb,hc⟩;have:=hc 0 xs[0] (List.getElem?_eq_getElem hn);have h2:=World.block_lt_of_cell? _ _ this
 rwa [Gs] at h2
theorem Rd.below{B:Nat}(h:Rd w (· < B) A xs)(hb:Below B w w'):Rd w' (· < B) A xs:=h.keep fun _ hp=>hb.cell hp
theorem Rd.cut(h:Rd w ok A xs){k cap:Nat}(hc:xs.length<=cap):Rd w ok (if cap=k then A else A.map (·.add k)) (xs.drop k):=fun hn=>by
 have hk:k<xs.length:=by simp at hn;omega
 obtain⟨ad,rfl,hb,hcell⟩:=h (by omega);rw[if_neg (by omega)];refine⟨ad.add k,rfl,by rw[Gs];exact hb,fun j u hu=>?_⟩;rw[Zeb];exact hcell _ u (by rw[<-hu,l6])
theorem Rd.take(h:Rd w ok A xs)(k:Nat):Rd w ok A (xs.take k):=fun hn=>by
 have hk:0<xs.length:=by simp at hn;omega
 obtain⟨ad,rfl,hb,hcell⟩:=h hk;exact⟨ad,rfl,hb,fun j u hu=>hcell j u (by
  rw[List.getElem?_take] at hu;split at hu
  ·exact hu
  ·cases hu)⟩
theorem Rd.of_blk{g o:Nat}{t:TypeId}{cs r:List Value}(h:Blk w g t cs)(hp:cs.drop o=xs++r)(hok:ok g):Rd w ok (some ⟨g,o,none⟩) xs:=fun _ =>
 ⟨_,rfl,hok,U9 h o xs r hp⟩
theorem Rd.of_own{base:Nat}{e:TypeId}{c n:Nat}(h:w.ownsRow base e 1 (.slice A n c) n xs):Rd w (base<=·) A xs:=fun hn=>by
 have hl:xs.length=n:=by simpa using h.1
 rcases h.2 with ⟨_,h0⟩ | ⟨g,cap,cur,hv,hg,_⟩
 ·omega
 have hA:A=some ⟨g,0,none⟩:=by injection hv
 subst hA;exact⟨_,rfl,hg,h.cells (g:=g) rfl⟩
end
theorem Z7p{B:Nat}{w w':World}{g:Nat}(h:w.grownBy w' (some g))(hB:B<=w.heap.size)(hg:B<=g):Below B w w' :=
 (lM _ _).grown h hB (fun k hk=>by injection hk with hk;omega)
theorem Z4d{w w':World}{row:Option Nat}(h:Below w.heap.size w w'):w.grownBy w' row :=
 ⟨h.os,h.tape,h.output,h.size,fun k hk _=>h.block k hk⟩
end
section
section
variable {P:Program} {ops:Array Oper} {md:lH} {C:World->Prop}
def Gt(P:Program)(md:lH)(ops:Array Oper)(C:World->Prop)(n:Nat)(L:Array Bool->Act->Prop):Nat->Array Bool->Act->Prop
 | 0,listed,a=>L listed a
 | f+1,listed,a =>
  lA md ops listed ≠ []/\∀ i ∈ lA md ops listed,i<n/\qOp P ops C i (Gt P md ops C n L f (listed.setIfInBounds i true)) a
theorem Z7q{n g:Nat}{L:Array Bool->Act->Prop}{Q':Exit->Act->World->Prop}(hL:∀ listed a w,C w->L listed a->wpAny P md ops Q' g listed a w) :
  ∀ (f:Nat) (listed:Array Bool) (a:Act) (w:World),C w->Gt P md ops C n L f listed a->wpAny P md ops Q' (f+g) listed a w
 | 0,listed,a,w,hw,h=>by rw[nR];exact hL _ _ _ hw h
 | f+1,listed,a,w,hw,h=>by
  rw[show f+1+g=(f+g)+1 by omega];exact⟨fun h0=>absurd h0 h.1,fun i hi=>wpOp_of_qOp hw (fun a' w' hw' h'=>Z7q hL f _ a' w' hw' h') (h.2 i hi).2⟩
theorem Zec{n i:Nat}{oi:Oper}{v:Value}{L:Array Bool->Act->Prop}(hi:ops[i]?=some oi)(hsel:∀ (j:Nat) (o:Oper) cs b,ops[j]?=some o->o.op ≠ .select cs b)
  (hs:Region.sinkB md ops n=true) (hc:Region.chainB md ops n=true) (hn:n<ops.size) (hin:i<n)
  (hdone:∀ listed a,L listed a->∀ j ∈ lA md ops listed,n<=j) :
  ∀ (f:Nat) (listed:Array Bool) (a:Act),HeadInv md ops n listed ->
   (∀ j oj,ops[j]?=some oj->j ≠ i->listed.getD j true=false->(∀ e ∈ oj.after,lJ md e=true->e.on ≠ i)->oi.apart ops oj=true) ->
   i ∈ lA md ops listed->YieldsIn P ops C oi v a ->
   Gt P md ops C n L f (listed.setIfInBounds i true) (a.put oi.dst v)->Gt P md ops C n L (f+1) listed a:=by
 intro f;induction f with
 | zero =>
  intro listed a inv _ hr hy H;have hun:=(mem_ready.1 hr).1;refine⟨fun h=>(by rw[h] at hr;cases hr),fun j hj=>?_⟩;have hjn:j<n:=by
   rcases l3 j n with h | h
   ·exact h
   ·exact absurd hj (tail_waits hs hc hn inv _ i rfl hin hun j h)
  refine⟨hjn,?_⟩;by_cases hji:j=i
  ·subst hji;exact hy.qOp hi H
  ·have:=hdone _ _ H j (lK hj hji);omega
 | succ f ih =>
  intro listed a inv hfree hr hy H;have hun:=(mem_ready.1 hr).1;refine⟨fun h=>(by rw[h] at hr;cases hr),fun j hj=>?_⟩;have hjn:j<n:=by
   rcases l3 j n with h | h
   ·exact h
   ·exact absurd hj (tail_waits hs hc hn inv _ i rfl hin hun j h)
  refine⟨hjn,?_⟩;by_cases hji:j=i
  ·subst hji;exact hy.qOp hi H
  ·have h1:=(H.2 j (lK hj hji)).2;obtain⟨hjun,oj,hoj,hall⟩:=mem_ready.1 hj;have hnot:∀ e ∈ oj.after,lJ md e=true->e.on ≠ i:=fun e he hb heq=>by
    have h1:=hall e he hb;rw[heq,lR hun] at h1;cases h1
   have h2:=qOp_put hoj (hfree j oj hoj hji hjun hnot) (fun cs b=>hsel i oi cs b hi) (fun cs b=>hsel j oj cs b hoj) hy h1;have hfree':∀ k ok,ops[k]?=some ok->k ≠ i->(listed.setIfInBounds j true).getD k true=false ->
     (∀ e ∈ ok.after,lJ md e=true->e.on ≠ i)->oi.apart ops ok=true:=fun k ok hk hki hun hno=>by
    refine hfree k ok hk hki ?_ hno;by_cases hjk:j=k
    ·subst hjk;exact hjun
    ·rw[lS true hjk] at hun;exact hun
   refine qOp_mono (fun a' h3=>ih (listed.setIfInBounds j true) a' (inv.set hj hjn) hfree' (lK hr (Ne.symm hji)) h3.1 ?_) h2;rw[nS _ _ hji];exact h3.2
theorem Z4e{n g:Nat}{Lq:Act->Prop}(hsel:lT ops=true)(hs:Region.sinkB md ops n=true)(hc:Region.chainB md ops n=true)(hn:n<ops.size) :
  ∀ (l:List Oper) (k:Nat) (listed:Array Bool) (a:Act),(∀ j,j<l.length->l[j]?=ops[k+j]?)->k+l.length=n->HeadInv md ops n listed ->
  l7 md ops g l.length k listed=true->wpQuiet P ops C Lq l a ->
  Gt P md ops C n (fun listed' a'=>Region.seqB md ops g n listed'=true/\Lq a') l.length listed a
 | [],k,listed,a,_,hk,_,hB,h=>by
  have : k=n:=by simpa using hk
  subst this;exact⟨by simpa[l7] using hB,h⟩
 | o :: l,k,listed,a,hl,hk,inv,hB,h=>by
  have h0:ops[k]?=some o:=by simpa using (hl 0 (by simp)).symm
  simp only[lU,l7,lG] at hB;obtain⟨⟨hr,hf⟩,hB'⟩:=hB;have hkn:k<n:=by simp only[lU] at hk;omega
  have hr':k ∈ lA md ops listed:=by simpa using hr
  have hst:qOp P ops C k (wpQuiet P ops C Lq l) a:=by unfold qOp;simp only[h0];exact h
  obtain⟨v,hy,hK⟩:=l8 h0 hst;exact Zec h0 (nT hsel) hs hc hn hkn (fun listed' a' hL=>seqB_ready hL.1) l.length listed a inv (nU h0 hf) hr' hy
   (Z4e hsel hs hc hn l (k+1) _ _ (fun j hj=>by have:=hl (j+1) (by simp;omega);simpa[nQ,Nat.add_comm 1 j] using this) (by simp only[lU] at hk;omega) (inv.set hr' hkn) hB' hK)
theorem Zed{id:Nat}{Q:Exit->Act->World->Prop}{a:Act}{w:World}{l:List Oper}(n:Nat)(hm:P.follows .mixedOrders=true)(hB:l9 .any l.toArray n=true)(hC:C w.drew)
  (h:wpQuiet P l.toArray C (fun a'=>∀ w',C w'->wpList P l.toArray Q (l.drop n) a' w') (l.take n) a):(lV id l.toArray true).wp P Q a w:=by
 simp only[l9,lG,decide_eq_true_eq] at hB;obtain⟨⟨⟨⟨hsel,hn⟩,hs⟩,hc⟩,hlex⟩:=hB;have hn':n<l.length:=by simpa using hn
 have htl:(l.take n).length=n:=by simp;omega
 have hdl:(l.drop n).length=l.toArray.size - n:=by simp
 have inv0:HeadInv .any l.toArray n (nA l.toArray.size false) :=
  ⟨by simp,fun j oj _ hl=>(by rw[lW] at hl;cases hl),fun t _ ht=>getD_in (by simpa using ht) (lW _ _)⟩
 have H:=Z4e (md:=.any) (g:=l.toArray.size - n) hsel hs hc hn (l.take n) 0 _ a (fun j hj=>by
  have hj':j<n:=by rw[htl] at hj;exact hj
  simp[hj']) (by simpa using htl) inv0 (by rw[htl];exact hlex) h
 refine wp_region_any hm ?_;have:=Z7q (Q':=Q) (g:=l.toArray.size - n) (fun listed a' w' hw' hL=>by
  have:=wpAny_of_seq (md:=.any) (Q':=Q) (l.drop n) n listed a' w' (fun j=>by simp[l6]) (by rw[hdl];exact hL.1) (hL.2 w' hw')
  rwa [hdl] at this) _ _ _ _ hC H
 rw[htl,show n+(l.toArray.size - n)=l.toArray.size by omega] at this;exact this
theorem Ye{id:Nat}{Q:Exit->Act->World->Prop}{a:Act}{w:World}{l:List Oper}(n:Nat)(hm:P.follows .mixedOrders=true)(hB:l9 .any l.toArray n=true)
  (h:wpQuiet P l.toArray (fun w'=>∃ n,w'=w.drewN n) (fun a'=>∀ w',(∃ n,w'=w.drewN n)->wpList P l.toArray Q (l.drop n) a' w') (l.take n) a):(lV id l.toArray true).wp P Q a w :=
 Zed (C:=fun w'=>∃ n,w'=w.drewN n) n hm hB ⟨1,rfl⟩ h
end
end
section
open Go.RowKit
section
variable {P:Program}
theorem Yp{ops:Array Oper}{rest:List Oper}{o:Oper}{a:Act}{C:World->Prop}{Q:Act->Prop}(op:Op)(_ho:o.op=op)(hgd:o.guard=none)(v:Value)
  (hrun:∀ w,C w->(execOp a.eval o).run P w=.ok (.value v) w) (h:wpQuiet P ops C Q rest (a.put o.dst v)):wpQuiet P ops C Q (o :: rest) a:=by
 refine wpQuiet_step fun K hK=>?_;have hw:nV o (yielded ops a.tmps)=true:=by simp[nV,hgd]
 rw[if_pos hw];exact⟨v,fun w hC=>by unfold lX;rw[hrun w hC];exact⟨rfl,rfl⟩,hK _ h⟩
theorem Zee(w:World)(t elem:TypeId)(n:Nat)(hu:P.underlying t=some (.array n elem))(hs:(P.info? elem).map (·.size)=some 1)(b off l:Nat)(hl:l<n) :
  (lL t (.pointer (some ⟨b,off,none⟩)) (some (.int .i64 (l:Int))) none none).run P w=.ok (.slice (some ⟨b,off+l,none⟩) (n - l) (n - l)) w:=by
 cases hq:P.info? elem with
 | none=>simp[hq] at hs
 | some i =>
  have hi:i.size=1:=by simpa[hq] using hs
  have h1:¬ n=l:=by omega
  have h2:(l:Int)<=n:=by omega
  simp[lL,lI hu,nB,nC,sizeOf,typeInfo,hq,hi,h1,Xj,lQ,Nat.le_of_lt hl]
theorem Zef{ops:Array Oper}{rest:List Oper}{o:Oper}{a:Act}{C:World->Prop}{Q:Act->Prop}(t:TypeId)(x lo:Operand)(ho:o.op=.slice t x (some lo) none none)(hgd:o.guard=none)
  (elem:TypeId) (n:Nat) (hu:P.underlying t=some (.array n elem)) (hs:(P.info? elem).map (·.size)=some 1) (b off l:Nat) (i:Int) (hx:a.eval x=.pointer (some ⟨b,off,none⟩)) (hlo:a.eval lo=.int .i64 i) (hi:i=(l:Int)) (hl:l<n)
  (h:wpQuiet P ops C Q rest (a.put o.dst (.slice (some ⟨b,off+l,none⟩) (n - l) (n - l)))):wpQuiet P ops C Q (o :: rest) a:=by
 refine Yp _ ho hgd _ (fun w _=>?_) h;subst hi;simp only[execOp,ho,hx,hlo,nD,Option.map_none,lD,Zee w t elem n hu hs b off l hl,lC,lE]
def cutA(A:Option Addr)(cap k s:Nat):Option Addr:=if cap=k then A else A.map (·.add (k*s))
theorem Rd.cutA{w:World}{ok:Nat->Prop}{A:Option Addr}{xs:List Value}(h:Rd w ok A xs){k cap:Nat}(hc:xs.length<=cap):Rd w ok (cutA A cap k 1) (xs.drop k):=by
 have:=h.cut (k:=k) hc;unfold Proofs.YtfdimggmljkkbaaGreatDoor.cutA;simpa using this
theorem K4(w:World)(t elem:TypeId)(s:Nat)(hu:P.underlying t=some (.slice elem))(hs:(P.info? elem).map (·.size)=some s)(A:Option Addr)(n cap k:Nat)(hk:k<=n) :
  (lL t (.slice A n cap) (some (.int .i64 (k:Int))) none none).run P w=.ok (.slice (cutA A cap k s) (n - k) (cap - k)) w:=by
 cases hq:P.info? elem with
 | none=>simp[hq] at hs
 | some i =>
  have hi:i.size=s:=by simpa[hq] using hs
  simp[lL,nW,lI hu,nB,nC,sizeOf,typeInfo,hq,hi,hk,cutA]
theorem Zeg(w:World)(t elem:TypeId)(s:Nat)(hu:P.underlying t=some (.slice elem))(hs:(P.info? elem).map (·.size)=some s)(A:Option Addr)(n cap k j:Nat)(hk:k<=j)(hj:j<=cap) :
  (lL t (.slice A n cap) (some (.int .i64 (k:Int))) (some (.int .i64 (j:Int))) none).run P w=.ok (.slice (cutA A cap k s) (j - k) (cap - k)) w:=by
 cases hq:P.info? elem with
 | none=>simp[hq] at hs
 | some i =>
  have hi:i.size=s:=by simpa[hq] using hs
  simp[lL,nW,lI hu,nB,nC,sizeOf,typeInfo,hq,hi,hk,hj,cutA]
theorem Z7r{ops:Array Oper}{rest:List Oper}{o:Oper}{a:Act}{w:World}{Q:Exit->Act->World->Prop}(hgd:o.guard=none)(t:TypeId)(x lo:Operand)(ho:o.op=.slice t x (some lo) none none)
  (elem:TypeId) (s:Nat) (hu:P.underlying t=some (.slice elem)) (hs:(P.info? elem).map (·.size)=some s) (A:Option Addr) (n cap k:Nat) (hx:a.eval x=.slice A n cap) (hlo:a.eval lo=.int .i64 (k:Int)) (hk:k<=n)
  (h:wpList P ops Q rest (a.put o.dst (.slice (cutA A cap k s) (n - k) (cap - k))) w):wpList P ops Q (o :: rest) a w:=by
 refine G4 _ ho hgd _ ?_ h;simp only[execOp,ho,hx,hlo,nD,Option.map_none,lD,K4 w t elem s hu hs A n cap k hk,lC,lE]
theorem Yf{ops:Array Oper}{rest:List Oper}{op:Oper}{a:Act}{C:World->Prop}{Q:Act->Prop}(ty:TypeId)(x:Operand)(ho:op.op=.load ty x)(hgd:op.guard=none)
  (g o:Nat) (hx:a.eval x=.pointer (some ⟨g,o,none⟩)) (t:TypeId) (cs part r:List Value) (hg:∀ w,C w->Blk w g t cs) (hp:cs.drop o=part++r) (d:TypeDesc)
  (hu:P.underlying ty=some d) (hd:d.isRow=true) (hi:(P.info? ty).map (·.size)=some part.length)
  (h:wpQuiet P ops C Q rest (a.put op.dst (.agg part.toArray))):wpQuiet P ops C Q (op :: rest) a:=by
 refine Yp _ ho hgd _ (fun w hw=>?_) h;unfold execOp;simp only[ho,hx,Instr.loadAt,lQ,lD,lE,lC,
  run_loadVar_mid w g o ty part d (fun j v hv=>by have:=U9 (hg w hw) o part r hp j v hv;rwa [Xj] at this) hu hd hi]
end
end
section
open Go.RowKit
section
variable {P:Program} (w:World)
theorem Zeh(base:Nat)(t ty e:TypeId)(i:TypeInfo)(size:Nat)(ht:P.underlying t=some (.slice e))(hi:P.info? e=some i)
  (v:Value) (n:Nat) (xs:List Value) (hown:w.ownsRow base e size v n xs) (c:Nat):(lY #[t,t] ty #[v,.slice none 0 c]).run P w=.ok v w:=by
 rcases hown.2 with ⟨rfl,rfl⟩ | ⟨g,cap,cur,rfl,_,_,hnc,_⟩
 ·simp[lY,lI ht,sizeOf,typeInfo,hi,nX,nY]
 ·simp[lY,lI ht,sizeOf,typeInfo,hi,nX,nY,hnc,storeCells]
structure InfoOf (P:Program) (e:TypeId) (z:Value) (size bytes:Nat):Prop where
 info:(P.info? e).map (fun i=>(i.zero,i.size,i.bytes))=some (some z,size,bytes)
 cells:z.cells.size=size
 pos:0<size
theorem Zei(base:Nat)(t ty e:TypeId)(z:Value)(bytes:Nat)(size:Nat)(ht:P.underlying t=some (.slice e))(hI:InfoOf P e z size bytes)
  (v:Value) (n:Nat) (xs:List Value) (hown:w.ownsRow base e size v n xs)
  (ok:Nat->Prop) (A:Option Addr) (m c:Nat) (news:List Value) (hm:news.length=m*size) (hr:Rd w ok A news) (h1:∀ u ∈ news,u.oneCell'=true)
  (h63:n+m<=maxLen) (hbytes:(n+m)*bytes<=140737488355328) (hbase:base<=w.heap.size) :
  ∃ v' w',(lY #[t,t] ty #[v,.slice A m c]).run P w=.ok v' w'/\w'.ownsRow base e size v' (n+m) (xs++news)/\w.grownBy w' v.ownBlock /\
   (v'.ownBlock=v.ownBlock ∨ v'.ownBlock=some w.heap.size):=by
 cases hq:P.info? e with
 | none=>have:=hI.info;simp[hq] at this
 | some i =>
  have hii:=hI.info;simp only[hq,nD,Option.some.injEq,Prod.mk.injEq] at hii;obtain⟨hz,hsize,hby⟩:=hii;rcases A with _ | ad
  ·have hm0:m=0:=by
    rcases Nat.eq_zero_or_pos m with h0 | h0
    ·exact h0
    ·obtain⟨ad,h,_⟩:=hr (by rw[hm];exact Nat.mul_pos h0 hI.pos);cases h
   subst hm0;have hn:news=[]:=List.eq_nil_of_length_eq_zero (by simpa using hm);subst hn;exact⟨v,w,Zeh w base t ty e i size ht hq v n xs hown c,by simpa using hown,World.grownBy.refl w _,.inl rfl⟩
  ·have hcells:∀ j u,news[j]?=some u->w.cell? (ad.add j)=some u:=by
    intro j u hu;obtain⟨ad',h,_,hc⟩:=hr (by have:=(l5.1 hu).1;omega)
    injection h with h
    subst h;exact hc j u hu
   obtain⟨v',w',hrun,h2,h3,_,h5⟩:=run_append_own_at (P:=P) w base t ty e i z size bytes ht hq hz hsize hby hI.cells hI.pos v n xs hown ad m c news hm hcells h1 h63 hbytes hbase;exact⟨v',w',hrun,h2,h3,h5⟩
theorem Z7s{o:Oper}{a:Act}{K:Act->World->Prop}{Q:Exit->Act->World->Prop}(s x:Operand)(t:TypeId)
  (ho:o.op=.call { callee:=.builtin .append,args:=#[s,x],argTypes:=#[t,t] })
  (base:Nat) (e:TypeId) (z:Value) (size bytes:Nat) (ht:P.underlying t=some (.slice e)) (hI:InfoOf P e z size bytes)
  (v:Value) (n:Nat) (xs:List Value) (hs:a.eval s=v) (hown:w.ownsRow base e size v n xs)
  (ok:Nat->Prop) (A:Option Addr) (m c:Nat) (news:List Value) (hx:a.eval x=.slice A m c) (hm:news.length=m*size) (hr:Rd w ok A news) (h1:∀ u ∈ news,u.oneCell'=true)
  (h63:n+m<=maxLen) (hbytes:(n+m)*bytes<=140737488355328) (hbase:base<=w.heap.size)
  (h:∀ v' w',w'.ownsRow base e size v' (n+m) (xs++news)->w.grownBy w' v.ownBlock->(v'.ownBlock=v.ownBlock ∨ v'.ownBlock=some w.heap.size)->K (a.put o.dst v') w'):o.wp P a w K Q:=by
 obtain⟨v',w',hrun,h2,h3,h4⟩:=Zei (P:=P) w base t o.type e z bytes size ht hI v n xs hown ok A m c news hm hr h1 h63 hbytes hbase;unfold lP execOp;simp only[ho,resolve,invoke,builtin,lD,lE,lC,List.map_toArray,lN,nZ,hs,hx,hrun];exact h v' w' h2 h3 h4
theorem X0{ops:Array Oper}{rest:List Oper}{o:Oper}{a:Act}{Q:Exit->Act->World->Prop}(hgd:o.guard=none)(s x:Operand)(t:TypeId)
  (ho:o.op=.call { callee:=.builtin .append,args:=#[s,x],argTypes:=#[t,t] })
  (base:Nat) (e:TypeId) (z:Value) (size bytes:Nat) (ht:P.underlying t=some (.slice e)) (hI:InfoOf P e z size bytes)
  (v:Value) (n:Nat) (xs:List Value) (hs:a.eval s=v) (hown:w.ownsRow base e size v n xs)
  (ok:Nat->Prop) (A:Option Addr) (m c:Nat) (news:List Value) (hx:a.eval x=.slice A m c) (hm:news.length=m*size) (hr:Rd w ok A news) (h1:∀ u ∈ news,u.oneCell'=true)
  (h63:n+m<=maxLen) (hbytes:(n+m)*bytes<=140737488355328) (hbase:base<=w.heap.size)
  (h:∀ v' w',w'.ownsRow base e size v' (n+m) (xs++news)->w.grownBy w' v.ownBlock->(v'.ownBlock=v.ownBlock ∨ v'.ownBlock=some w.heap.size)->wpList P ops Q rest (a.put o.dst v') w'):wpList P ops Q (o :: rest) a w :=
 lO hgd fun _ hK=>Z7s w s x t ho base e z size bytes ht hI v n xs hs hown ok A m c news hx hm hr h1 h63 hbytes hbase fun v' w' h2 h3 h4=>hK _ _ (h v' w' h2 h3 h4)
end
theorem Z6{w:World}{base:Nat}{e:TypeId}{size:Nat}{v:Value}{n:Nat}{xs:List Value}(h:w.ownsRow base e size v n xs) :
  ∃ A cap,v=.slice A n cap/\n<=cap/\cap<=maxLen:=by
 rcases h.2 with ⟨rfl,rfl⟩ | ⟨g,cap,cur,rfl,_,_,h1,h2,_⟩
 ·exact⟨none,0,rfl,Nat.le_refl _,Nat.zero_le _⟩
 ·exact⟨_,cap,rfl,h1,h2⟩
theorem Yd{w w':World}{base:Nat}{e:TypeId}{size:Nat}{v:Value}{n:Nat}{xs:List Value}(h:w.ownsRow base e size v n xs)(hg:w.grownBy w' v.ownBlock)(hb:base<=w.heap.size):Below base w w' :=
 (lM _ _).grown hg hb (fun k hk=>(h.lt k hk).1)
theorem Ua{w:World}{base:Nat}{e:TypeId}{n:Nat}{xs:List Value}{A:Option Addr}{cap:Nat}(h:w.ownsRow base e 1 (.slice A n cap) n xs):Rd w (base<=·) A xs:=Rd.of_own h
end
section
open Go.RowKit
def wv(x:UInt32):Int:=(x.toNat:Int)
def bv(x:UInt8):Int:=(x.toNat:Int)
abbrev W(x:UInt32):Value:=.int .u32 (wv x)
abbrev B(x:UInt8):Value:=.int .u8 (bv x)
theorem Z7t{x y:UInt8}(h:bv x=bv y):x=y:=UInt8.toNat_inj.1 (by unfold bv at h;omega)
theorem Z4f(n:Nat):IntKind.u32.wrap (n:Int)=((n % 4294967296:Nat):Int):=by
 simp[IntKind.wrap,IntKind.bits,IntKind.signed]
theorem Zej(n:Nat):IntKind.u8.wrap (n:Int)=((n % 256:Nat):Int):=by
 simp[IntKind.wrap,IntKind.bits,IntKind.signed]
theorem Gu(x:UInt32):(lF 32 (wv x))=x.toBitVec:=by
 apply BitVec.eq_of_toNat_eq;have:=x.toNat_lt;simp[wv]
theorem Z7u(x:UInt8):(lF 8 (bv x))=x.toBitVec:=by
 apply BitVec.eq_of_toNat_eq;have:=x.toNat_lt;simp[bv]
theorem Z7v(x y:UInt32):bits .xor .u32 (wv x) (wv y)=wv (x ^^^ y):=by
 show IntKind.u32.wrap ((lF 32 (wv x) ^^^ lF 32 (wv y)).toNat:Int)=_;rw[Gu,Gu,Z4f,lZ (l0 _)];rfl
theorem w_and(x y:UInt32):bits .and .u32 (wv x) (wv y)=wv (x &&& y):=by
 show IntKind.u32.wrap ((lF 32 (wv x) &&& lF 32 (wv y)).toNat:Int)=_;rw[Gu,Gu,Z4f,lZ (l0 _)];rfl
theorem w_or(x y:UInt32):bits .or .u32 (wv x) (wv y)=wv (x ||| y):=by
 show IntKind.u32.wrap ((lF 32 (wv x) ||| lF 32 (wv y)).toNat:Int)=_;rw[Gu,Gu,Z4f,lZ (l0 _)];rfl
theorem Z7w(y:UInt32):bits .xor .u32 4294967295 (wv y)=wv (~~~ y):=by
 have h:(4294967295:Int)=wv 4294967295:=by decide
 rw[h,Z7v]
 congr 1
theorem Zek(y:UInt32):bits .xor .u32 IntKind.u32.max (wv y)=wv (~~~ y):=Z7w y
theorem Z4g(x y:UInt32):(wv x+wv y) % 4294967296=wv (x+y):=by
 unfold wv;rw[<-Int.natCast_add,UInt32.toNat_add];rfl
theorem Zel(d x y k z:UInt32):(wv d+(wv x+wv y+wv k+wv z)) % 4294967296=wv (d+(x+y+k+z)):=by simp only[<- Z4g];omega
theorem w_sum5'(x y k z u:UInt32):(wv x+wv y+wv k+wv z+wv u) % 4294967296=wv (x+y+k+z+u):=by simp only[<- Z4g];omega
theorem b_and(x y:UInt8):bits .and .u8 (bv x) (bv y)=bv (x &&& y):=by
 show IntKind.u8.wrap ((lF 8 (bv x) &&& lF 8 (bv y)).toNat:Int)=_;rw[Z7u,Z7u,Zej,lZ (l0 _)];rfl
def b2w(x:UInt8):UInt32:=nE x.toNat
theorem Zem(x:UInt8):(b2w x).toNat=x.toNat:=by
 have:=x.toNat_lt;unfold b2w;simp
def w2b(x:UInt32):UInt8:=nF x.toNat
def shr(x:UInt32)(n:Nat):UInt32:=nE (x.toNat / 2 ^ n)
def shl(x:UInt32)(n:Nat):UInt32:=nE (x.toNat*2 ^ n)
def Kh(x:UInt32)(n:Nat):UInt32:=shr x n ||| shl x (32 - n)
theorem Zen(x:UInt32)(n:Nat):(shr x n).toNat=x.toNat / 2 ^ n:=by
 have:=x.toNat_lt;have h:x.toNat / 2 ^ n<=x.toNat:=Nat.div_le_self _ _;unfold shr;simp;omega
theorem Zeo(x:UInt32)(n:Nat):(shl x n).toNat=x.toNat*2 ^ n % 4294967296:=by
 unfold shl;simp
theorem Gv(x:UInt32)(n:Nat):wv x / (2:Int) ^ n=wv (shr x n):=by
 unfold wv;rw[Zen];simp
theorem Z2d(x:UInt32)(n:Nat):(wv x*(2:Int) ^ n) % 4294967296=wv (shl x n):=by
 unfold wv;rw[Zeo];simp
theorem Zep(x:UInt8):bv x % 4294967296=wv (b2w x):=by
 have:=x.toNat_lt;unfold bv wv;rw[Zem];omega
theorem Zeq(x:UInt32):wv x % 256=bv (w2b x):=by
 unfold bv wv w2b;simp
theorem shl_8(x:UInt32):wv x*256 % 4294967296=wv (shl x 8):=Z2d x 8
theorem Zer(x:UInt32):wv x*65536 % 4294967296=wv (shl x 16):=Z2d x 16
theorem Zes(x:UInt32):wv x*16777216 % 4294967296=wv (shl x 24):=Z2d x 24
theorem shr_3(x:UInt32):wv x / 8=wv (shr x 3):=Gv x 3
theorem shr_8(x:UInt32):wv x / 256=wv (shr x 8):=Gv x 8
theorem Zet(x:UInt32):wv x / 1024=wv (shr x 10):=Gv x 10
theorem Zeu(x:UInt32):wv x / 65536=wv (shr x 16):=Gv x 16
theorem Zev(x:UInt32):wv x / 16777216=wv (shr x 24):=Gv x 24
end
section
section
variable {P:Program} {ops:Array Oper} {md:lH} {C:World->Prop}
def Kv:List Oper->Nat->Oper
 | [],_=>default
 | o :: _,0=>o
 | _ :: l,n+1=>Kv l n
theorem Yw(o:Oper)(l:List Oper):Kv (o :: l) 0=o:=rfl
theorem Ys(o:Oper)(l:List Oper)(n:Nat):Kv (o :: l) (n+1)=Kv l n:=rfl
theorem Z2e:∀ (l:List Oper) (i:Nat) (h:i<l.length),Kv l i=l[i]
 | o :: l,0,_=>rfl
 | o :: l,n+1,h=>by rw[Ys];exact Z2e l n (by simpa using h)
def Zj(l:List Oper)(is:List Nat):List Oper:=is.map (Kv l)
def Ki(md:lH)(ops:Array Oper)(t0:Nat):List Nat->Bool
 | []=>true
 | i :: s=>(s++[t0]).any (fun j=>nG md ops j i) && Ki md ops t0 s
def K5(md:lH)(ops:Array Oper):Nat->List Nat->Bool
 | _,[]=>true
 | t0,t :: s=>nG md ops t t0 && K5 md ops t s
structure HeadL (md:lH) (ops:Array Oper) (tl:List Nat) (listed:Array Bool):Prop where
 size:listed.size=ops.size
 closed:∀ j oj,ops[j]?=some oj->listed.getD j false=true->∀ e ∈ oj.after,lJ md e=true->listed.getD e.on false=true
 tail:∀ t ∈ tl,listed.getD t true=false
theorem HeadL.set{tl:List Nat}{i:Nat}{listed:Array Bool}(inv:HeadL md ops tl listed)(hi:i ∈ lA md ops listed)(hin:i ∉ tl):HeadL md ops tl (listed.setIfInBounds i true):=by
 obtain⟨_,oi,hoi,hall⟩:=mem_ready.1 hi;refine⟨by simp[inv.size],fun j oj hj hl e he hb=>?_,fun t ht=>by rw[lS true (show i ≠ t from fun e=>hin (by rw[e];exact ht))];exact inv.tail t ht⟩;by_cases hij:i=j
 ·subst hij;have : oj=oi:=n0 (hj.symm.trans hoi);subst this;exact getD_set_true (hall e he hb)
 ·rw[lS false hij] at hl;exact getD_set_true (inv.closed j oj hj hl e he hb)
theorem Z7x{j i:Nat}{listed:Array Bool}(h:nG md ops j i=true)(hun:listed.getD i true=false):j ∉ lA md ops listed:=fun hr=>by
 obtain⟨oj,hoj,e,he,hb,hon⟩:=Region.waitsFor_spec h;obtain⟨_,oj',hoj',hall⟩:=mem_ready.1 hr;have : oj=oj':=n0 (hoj.symm.trans hoj');subst this;have h2:=hall e he hb;rw[hon,lR hun] at h2;cases h2
theorem Z7y{listed:Array Bool}:∀ (tl:List Nat) (t0:Nat),K5 md ops t0 tl=true->listed.getD t0 true=false->(∀ t ∈ tl,listed.getD t true=false)->∀ t ∈ tl,t ∉ lA md ops listed
 | [],_,_,_,_,_,h=>by cases h
 | t :: s,t0,hc,h0,ht,u,hu=>by
  simp only[K5,lG] at hc;cases hu with
  | head=>exact Z7x hc.1 h0
  | tail _ hu=>exact Z7y s t hc.2 (ht t (by simp)) (fun x hx=>ht x (by simp[hx])) u hu
theorem Z0r{t0:Nat}{tl:List Nat}{listed:Array Bool}(hc:K5 md ops t0 tl=true)(inv:HeadL md ops (t0 :: tl) listed) :
  ∀ hd:List Nat,Ki md ops t0 hd=true->∀ i ∈ hd,listed.getD i true=false->∀ t ∈ t0 :: tl,t ∉ lA md ops listed
 | [],_,_,h,_,_,_=>by cases h
 | i :: s,hs,k,hk,hun,t,ht=>by
  simp only[Ki,lG] at hs;cases hk with
  | tail _ hk=>exact Z0r hc inv s hs.2 k hk hun t ht
  | head =>
   cases ht with
   | tail _ ht=>exact Z7y tl t0 hc (inv.tail t0 (by simp)) (fun x hx=>inv.tail x (by simp[hx])) t ht
   | head =>
    intro hr;obtain⟨j,hj,hw⟩:=List.any_eq_true.1 hs.1;obtain⟨oj,hoj,e,he,hb,hon⟩:=Region.waitsFor_spec hw;rcases List.mem_append.1 hj with hj | hj
    ·cases hl:listed.getD j false with
     | true =>
      have h2:=inv.closed j oj hoj hl e he hb;rw[hon,lR hun] at h2;cases h2
     | false =>
      have hjs:j<listed.size:=by rw[inv.size];exact (nH.1 hoj).1
      exact Z0r hc inv s hs.2 j hj (getD_in hjs hl) t0 (by simp) hr
    ·have : j=t0:=by simpa using hj
     subst this;exact Z7x hw hun hr
def Z0s(P:Program)(md:lH)(ops:Array Oper)(C:World->Prop)(tl:List Nat)(L:Array Bool->Act->Prop):Nat->Array Bool->Act->Prop
 | 0,listed,a=>L listed a
 | f+1,listed,a =>
  lA md ops listed ≠ []/\∀ i ∈ lA md ops listed,i ∉ tl/\qOp P ops C i (Z0s P md ops C tl L f (listed.setIfInBounds i true)) a
theorem Z7z{tl:List Nat}{g:Nat}{L:Array Bool->Act->Prop}{Q':Exit->Act->World->Prop}(hL:∀ listed a w,C w->L listed a->wpAny P md ops Q' g listed a w) :
  ∀ (f:Nat) (listed:Array Bool) (a:Act) (w:World),C w->Z0s P md ops C tl L f listed a->wpAny P md ops Q' (f+g) listed a w
 | 0,listed,a,w,hw,h=>by rw[nR];exact hL _ _ _ hw h
 | f+1,listed,a,w,hw,h=>by
  rw[show f+1+g=(f+g)+1 by omega];exact⟨fun h0=>absurd h0 h.1,fun i hi=>wpOp_of_qOp hw (fun a' w' hw' h'=>Z7z hL f _ a' w' hw' h') (h.2 i hi).2⟩
theorem Zew{t0:Nat}{tl hd:List Nat}{i:Nat}{oi:Oper}{v:Value}{L:Array Bool->Act->Prop}(hi:ops[i]?=some oi)(hsel:∀ (j:Nat) (o:Oper) cs b,ops[j]?=some o->o.op ≠ .select cs b)
  (hs:Ki md ops t0 hd=true) (hc:K5 md ops t0 tl=true) (hin:i ∈ hd)
  (hdone:∀ listed a,L listed a->∀ j ∈ lA md ops listed,j ∈ t0 :: tl) :
  ∀ (f:Nat) (listed:Array Bool) (a:Act),HeadL md ops (t0 :: tl) listed ->
   (∀ j oj,ops[j]?=some oj->j ≠ i->listed.getD j true=false->(∀ e ∈ oj.after,lJ md e=true->e.on ≠ i)->oi.apart ops oj=true) ->
   i ∈ lA md ops listed->YieldsIn P ops C oi v a ->
   Z0s P md ops C (t0 :: tl) L f (listed.setIfInBounds i true) (a.put oi.dst v)->Z0s P md ops C (t0 :: tl) L (f+1) listed a:=by
 intro f;induction f with
 | zero =>
  intro listed a inv _ hr hy H;have hun:=(mem_ready.1 hr).1;refine⟨fun h=>(by rw[h] at hr;cases hr),fun j hj=>?_⟩;have hjn:j ∉ t0 :: tl:=fun hm=>Z0r hc inv hd hs i hin hun j hm hj;refine⟨hjn,?_⟩;by_cases hji:j=i
  ·subst hji;exact hy.qOp hi H
  ·exact absurd (hdone _ _ H j (lK hj hji)) hjn
 | succ f ih =>
  intro listed a inv hfree hr hy H;have hun:=(mem_ready.1 hr).1;refine⟨fun h=>(by rw[h] at hr;cases hr),fun j hj=>?_⟩;have hjn:j ∉ t0 :: tl:=fun hm=>Z0r hc inv hd hs i hin hun j hm hj;refine⟨hjn,?_⟩;by_cases hji:j=i
  ·subst hji;exact hy.qOp hi H
  ·have h1:=(H.2 j (lK hj hji)).2;obtain⟨hjun,oj,hoj,hall⟩:=mem_ready.1 hj;have hnot:∀ e ∈ oj.after,lJ md e=true->e.on ≠ i:=fun e he hb heq=>by
    have h1:=hall e he hb;rw[heq,lR hun] at h1;cases h1
   have h2:=qOp_put hoj (hfree j oj hoj hji hjun hnot) (fun cs b=>hsel i oi cs b hi) (fun cs b=>hsel j oj cs b hoj) hy h1;have hfree':∀ k ok,ops[k]?=some ok->k ≠ i->(listed.setIfInBounds j true).getD k true=false ->
     (∀ e ∈ ok.after,lJ md e=true->e.on ≠ i)->oi.apart ops ok=true:=fun k ok hk hki hun hno=>by
    refine hfree k ok hk hki ?_ hno;by_cases hjk:j=k
    ·subst hjk;exact hjun
    ·rw[lS true hjk] at hun;exact hun
   refine qOp_mono (fun a' h3=>ih (listed.setIfInBounds j true) a' (inv.set hj hjn) hfree' (lK hr (Ne.symm hji)) h3.1 ?_) h2;rw[nS _ _ hji];exact h3.2
def K6(md:lH)(ops:Array Oper):List Nat->Array Bool->Bool
 | [],listed=>(lA md ops listed).isEmpty
 | k :: s,listed=>decide (lA md ops listed=[k]) && K6 md ops s (listed.setIfInBounds k true)
def O2(md:lH)(ops:Array Oper)(tl:List Nat):List Nat->Array Bool->Bool
 | [],listed=>K6 md ops tl listed
 | k :: s,listed=>(lA md ops listed).contains k && n1 md ops listed k && O2 md ops tl s (listed.setIfInBounds k true)
theorem Zex{t0:Nat}{tl:List Nat}{listed:Array Bool}(h:K6 md ops (t0 :: tl) listed=true):∀ j ∈ lA md ops listed,j ∈ t0 :: tl:=by
 intro j hj;simp only[K6,lG,decide_eq_true_eq] at h;rw[h.1] at hj;have : j=t0:=by simpa using hj
 simp[this]
theorem Z80{Q':Exit->Act->World->Prop}:∀ (is:List Nat) (l:List Oper) (listed:Array Bool) (a:Act) (w:World),is.map (ops[·]?)=l.map some ->
  K6 md ops is listed=true->wpList P ops Q' l a w->wpAny P md ops Q' is.length listed a w
 | [],l,_,_,_,hl,hB,h=>by
  have : l=[]:=by simpa using hl.symm
  subst this;exact⟨by simpa[K6] using hB,h⟩
 | k :: s,l,listed,a,w,hl,hB,h=>by
  obtain⟨o,l',rfl⟩:∃ o l',l=o :: l':=by
   cases l with
   | nil=>simp at hl
   | cons o l'=>exact⟨o,l',rfl⟩
  simp only[lN,nI] at hl;simp only[K6,lG,decide_eq_true_eq] at hB;refine⟨fun h1=>(by rw[hB.1] at h1;cases h1),fun i hi=>?_⟩;rw[hB.1] at hi;have hik:i=k:=by simpa using hi
  subst hik;have hw:wpOp P ops Q' i (wpList P ops Q' l') a w:=by unfold wpOp;simp only[hl.1];exact h
  exact wpOp_mono (fun a' w' h'=>Z80 s l' _ a' w' hl.2 hB.2 h') hw
theorem Z81{t0:Nat}{tl hd:List Nat}{Lq:Act->Prop}(hsel:lT ops=true)(hs:Ki md ops t0 hd=true)(hc:K5 md ops t0 tl=true) :
  ∀ (is:List Nat) (l:List Oper) (listed:Array Bool) (a:Act),(∀ i ∈ is,i ∈ hd)->(∀ i ∈ is,i ∉ t0 :: tl)->is.map (ops[·]?)=l.map some->HeadL md ops (t0 :: tl) listed ->
  O2 md ops (t0 :: tl) is listed=true->wpQuiet P ops C Lq l a ->
  Z0s P md ops C (t0 :: tl) (fun listed' a'=>K6 md ops (t0 :: tl) listed'=true/\Lq a') is.length listed a
 | [],l,listed,a,_,_,hl,_,hB,h=>by
  have : l=[]:=by simpa using hl.symm
  subst this;exact⟨by simpa[O2] using hB,h⟩
 | k :: s,l,listed,a,hsub,hnt,hl,inv,hB,h=>by
  obtain⟨o,l',rfl⟩:∃ o l',l=o :: l':=by
   cases l with
   | nil=>simp at hl
   | cons o l'=>exact⟨o,l',rfl⟩
  simp only[lN,nI] at hl;simp only[O2,lG] at hB;obtain⟨⟨hr,hf⟩,hB'⟩:=hB;have hr':k ∈ lA md ops listed:=by simpa using hr
  have hst:qOp P ops C k (wpQuiet P ops C Lq l') a:=by unfold qOp;simp only[hl.1];exact h
  obtain⟨v,hy,hK⟩:=l8 hl.1 hst;exact Zew hl.1 (nT hsel) hs hc (hsub k (by simp)) (fun listed' a' hL=>Zex hL.1) s.length listed a inv (nU hl.1 hf) hr' hy
   (Z81 hsel hs hc s l' _ _ (fun i hi=>hsub i (by simp[hi])) (fun i hi=>hnt i (by simp[hi])) hl.2 (inv.set hr' (hnt k (by simp))) hB' hK)
def Gw:Op->Bool
 | .move _ | .nilCheck _ | .fieldAddr .. | .field .. | .binOp .. | .unOp .. | .indexAddr .. | .index .. | .slice .. | .makeInterface .. | .convert .. | .extract .. => true
 | _=>false
theorem Zey{o:Oper}{a:Act}{w:World}{x:Operand}(hop:o.op=.nilCheck x):(∃ u w',(execOp a.eval o).run P w=.ok (.value u) w') ∨ (∃ u w',(execOp a.eval o).run P w=.halt u w'):=by
 unfold execOp;rw[hop];dsimp only;split
 ·exact .inr ⟨_,_,rfl⟩
 ·exact .inr ⟨_,_,rfl⟩
 ·exact .inr ⟨_,_,rfl⟩
 ·split
  ·exact .inr ⟨_,_,rfl⟩
  ·rename_i name first captured _ _ t w1 _
   simp only[lD];generalize hr:Sem.run P _ w=r;cases r with
   | halt u w'=>exact .inr ⟨u,w',rfl⟩
   | ok p w2 =>
    simp only[lC];generalize hr2:Sem.run P (nilAhead _ _ _ _) w2=r2;cases r2 with
    | halt u w'=>exact .inr ⟨u,w',rfl⟩
    | ok p w2 =>
     simp only[lC];split
     ·exact .inr ⟨_,_,rfl⟩
     ·exact .inl ⟨_,_,rfl⟩
  ·exact .inl ⟨_,_,rfl⟩
 ·exact .inl ⟨_,_,rfl⟩
theorem Z82{o:Oper}{a:Act}{v:Value}{C:World->Prop}{w:World}(ho:Gw o.op=true)(h:o.quietAt P a C w v):(execOp a.eval o).run P w=.ok (.value v) w:=by
 have key:(∃ x:Sem Value,execOp a.eval o=(do let y <- x;pure (.value y))) ∨ (∃ u w',(execOp a.eval o).run P w=.ok (.value u) w') ∨ (∃ u w',(execOp a.eval o).run P w=.halt u w'):=by
  cases hop:o.op
  all_goals rw[hop] at ho
  all_goals first
   | (exact .inl ⟨_,by unfold execOp;rw[hop]⟩)
   | (exact .inl ⟨_,by unfold execOp;rw[hop];rfl⟩)
   | (exact .inr (Zey hop))
   | (exact .inr (.inl ⟨_,_,by unfold execOp;rw[hop];rfl⟩))
   | (exact absurd ho (by simp[Gw]))
 rcases key with ⟨x,hx⟩ | ⟨u,w',hu⟩ | ⟨u,w',hu⟩
 ·unfold lX at h;rw[hx,lD] at h ⊢;cases hr:x.run P w with
  | ok y w' =>
   rw[hr] at h;simp only[lC,lE,l1] at h ⊢;rw[h.1,h.2]
  | halt y w' =>
   rw[hr] at h;simp[Result.andThen,l1] at h
 ·unfold lX at h;rw[hu] at h ⊢;simp only[l1] at h;rw[h.1,h.2]
 ·unfold lX at h;rw[hu] at h;simp[l1] at h
def Gx(md:lH)(ops:Array Oper)(hd tl:List Nat):List Nat->Array Bool->Bool
 | [],listed=>O2 md ops tl hd listed
 | k :: s,listed=>(lA md ops listed).contains k && n1 md ops listed k && ((ops[k]?).map (Gw ·.op)).getD false && Gx md ops hd tl s (listed.setIfInBounds k true)
def Z83(md:lH)(ops:Array Oper)(pre hd:List Nat)(t0:Nat)(tl:List Nat):Bool :=
 lT ops && Ki md ops t0 hd && K5 md ops t0 tl && (decide (pre.length+hd.length+(tl.length+1)=ops.size)) && (hd.all fun i=>!(t0 :: tl).contains i) && (pre.all fun i=>!(t0 :: tl).contains i) && Gx md ops hd (t0 :: tl) pre (nA ops.size false)
theorem Qs{l:List Oper}{is:List Nat}(h:∀ i ∈ is,i<l.length):is.map (l.toArray[·]?)=(Zj l is).map some:=by
 unfold Zj;rw[nJ];refine n2 fun i hi=>?_;simp[h i hi,Z2e l i (h i hi)]
theorem Z4h{hd tl:List Nat}:∀ (pre:List Nat) (listed:Array Bool),Gx md ops hd tl pre listed=true->(∀ i ∈ pre,i<ops.size)/\∃ listed',O2 md ops tl hd listed'=true
 | [],listed,h=>⟨by simp,listed,h⟩
 | k :: s,listed,h=>by
  simp only[Gx,lG] at h;obtain⟨h1,h2⟩:=Z4h s _ h.2;refine⟨fun i hi=>?_,h2⟩;cases hi with
  | head =>
   have : k ∈ lA md ops listed:=by simpa using h.1.1.1
   obtain⟨_,o,ho,_⟩:=mem_ready.1 this;exact (nH.1 ho).1
  | tail _ hi=>exact h1 i hi
theorem Z84{i:Nat}{listed:Array Bool}(h:i ∈ lA md ops listed):i<ops.size:=by
 obtain⟨_,o,ho,_⟩:=mem_ready.1 h;exact (nH.1 ho).1
theorem Z85:∀ (tl:List Nat) (listed:Array Bool),K6 md ops tl listed=true->∀ i ∈ tl,i<ops.size
 | [],_,_,_,h=>by cases h
 | k :: s,listed,h,i,hi=>by
  simp only[K6,lG,decide_eq_true_eq] at h;cases hi with
  | head=>exact Z84 (listed:=listed) (by rw[h.1];simp)
  | tail _ hi=>exact Z85 s _ h.2 i hi
theorem Z4i{tl:List Nat}:∀ (hd:List Nat) (listed:Array Bool),O2 md ops tl hd listed=true->(∀ i ∈ hd,i<ops.size)/\(∀ i ∈ tl,i<ops.size)
 | [],listed,h=>⟨by simp,Z85 tl listed h⟩
 | k :: s,listed,h=>by
  simp only[O2,lG] at h;obtain⟨h1,h2⟩:=Z4i s _ h.2;refine⟨fun i hi=>?_,h2⟩;cases hi with
  | head=>exact Z84 (listed:=listed) (by simpa using h.1.1)
  | tail _ hi=>exact h1 i hi
theorem Z86{Q:Exit->Act->World->Prop}{t0:Nat}{hd tl:List Nat}{w:World}{l:List Oper}(hops:ops=l.toArray)(hsel:lT ops=true)(hs:Ki md ops t0 hd=true)(hc:K5 md ops t0 tl=true)
  (hnt:∀ i ∈ hd,i ∉ t0 :: tl) (hQ:∀ c d v a w,Q (.panic c) (Act.put a d v) w->Q (.panic c) a w) (hC:C w) :
  ∀ (is:List Nat) (lp:List Oper) (listed:Array Bool) (a:Act),(∀ i ∈ is,i ∉ t0 :: tl)->is.map (ops[·]?)=lp.map some->HeadL md ops (t0 :: tl) listed->Gx md ops hd (t0 :: tl) is listed=true ->
   wpQuiet P ops (fun _=>True) (fun a1=>wpQuiet P ops C (fun a2=>∀ w',C w'->wpList P ops Q (Zj l (t0 :: tl)) a2 w') (Zj l hd) a1) lp a ->
   wpAny P md ops Q (is.length+(hd.length+(tl.length+1))) listed a w
 | [],lp,listed,a,_,hl,inv,hB,h=>by
  have : lp=[]:=by simpa using hl.symm
  subst this;obtain⟨hlt1,hlt2⟩:=Z4i hd listed hB;have hm1:hd.map (ops[·]?)=(Zj l hd).map some:=by rw[hops];exact Qs (fun i hi=>by have:=hlt1 i hi;rw[hops] at this;simpa using this)
  have hm2:(t0 :: tl).map (ops[·]?)=(Zj l (t0 :: tl)).map some:=by rw[hops];exact Qs (fun i hi=>by have:=hlt2 i hi;rw[hops] at this;simpa using this)
  have H:=Z81 (C:=C) (md:=md) hsel hs hc hd (Zj l hd) listed a (fun _ h=>h) hnt hm1 inv hB h;have:=Z7z (Q':=Q) (g:=tl.length+1) (fun listed a' w' hw' hL=>by
   exact Z80 (md:=md) (Q':=Q) (t0 :: tl) (Zj l (t0 :: tl)) listed a' w' hm2 hL.1 (hL.2 w' hw')) _ _ _ _ hC H
  simpa using this
 | k :: s,lp,listed,a,hks,hl,inv,hB,h=>by
  obtain⟨o,l',rfl⟩:∃ o l',lp=o :: l':=by
   cases lp with
   | nil=>simp at hl
   | cons o l'=>exact⟨o,l',rfl⟩
  simp only[lN,nI] at hl;simp only[Gx,lG] at hB;obtain⟨⟨⟨hr,hf⟩,hp⟩,hB'⟩:=hB;rw[hl.1] at hp;have hp':Gw o.op=true:=by simpa using hp
  have hst:qOp P ops (fun _=>True) k (wpQuiet P ops (fun _=>True) (fun a1=>wpQuiet P ops C (fun a2=>∀ w',C w'->wpList P ops Q (Zj l (t0 :: tl)) a2 w') (Zj l hd) a1) l') a:=by unfold qOp;simp only[hl.1];exact h
  obtain⟨v,hy,hK⟩:=l8 hl.1 hst;have hy':Yields P ops o v a:=by
   rcases hy with ⟨hw,hv⟩ | ⟨hw,rfl⟩
   ·exact .inl ⟨hw,fun w=>Z82 hp' (hv w trivial)⟩
   ·exact .inr ⟨hw,rfl⟩
  have hr':k ∈ lA md ops listed:=by simpa using hr
  rw[show (k :: s).length+(hd.length+(tl.length+1))=(s.length+(hd.length+(tl.length+1)))+1 by simp;omega];exact wpAny_take hl.1 hsel hf hr (fun c a w h=>hQ c _ _ a w h) hy'
   (Z86 hops hsel hs hc hnt hQ hC s l' _ _ (fun i hi=>hks i (by simp[hi])) hl.2 (inv.set hr' (hks k (by simp))) hB' hK)
theorem Z87{id:Nat}{Q:Exit->Act->World->Prop}{a:Act}{w:World}{l:List Oper}(pre hd:List Nat)(t0:Nat)(tl:List Nat)(hm:P.follows .mixedOrders=true)(hB:Z83 .any l.toArray pre hd t0 tl=true)
  (hQ:∀ c d v a w,Q (.panic c) (Act.put a d v) w->Q (.panic c) a w) (hC:C w.drew)
  (h:wpQuiet P l.toArray (fun _=>True) (fun a1=>wpQuiet P l.toArray C (fun a2=>∀ w',C w'->wpList P l.toArray Q (Zj l (t0 :: tl)) a2 w') (Zj l hd) a1) (Zj l pre) a):(lV id l.toArray true).wp P Q a w:=by
 simp only[Z83,lG,decide_eq_true_eq] at hB;obtain⟨⟨⟨⟨⟨⟨hsel,hs⟩,hc⟩,hlen⟩,hn1⟩,hn2⟩,hpre⟩:=hB;have inv0:HeadL .any l.toArray (t0 :: tl) (nA l.toArray.size false):=by
  refine⟨by simp,fun j oj _ hl=>(by rw[lW] at hl;cases hl),fun t ht=>getD_in ?_ (lW _ _)⟩;obtain⟨_,listed',hh⟩:=Z4h pre _ hpre;have:=(Z4i hd listed' hh).2 t ht;simpa using this
 have hm1:pre.map (l.toArray[·]?)=(Zj l pre).map some:=Qs (fun i hi=>by have:=(Z4h pre _ hpre).1 i hi;simpa using this);refine wp_region_any hm ?_;have:=Z86 (C:=C) (md:=.any) (l:=l) (w:=w.drew) rfl hsel hs hc (fun i hi=>by have:=n3.1 hn1 i hi;simpa using this) hQ hC pre (Zj l pre) _ a (fun i hi=>by have:=n3.1 hn2 i hi;simpa using this) hm1 inv0 hpre h;rw[show pre.length+(hd.length+(tl.length+1))=l.toArray.size by omega] at this;exact this
end
end
section
open Go.RowKit
section
variable {P:Program}
theorem Zez(xs:List UInt8):(xs.map bv).map (fun n=>nF n.toNat)=xs:=by
 rw[nJ]
 conv=>rhs;rw[<-List.map_id xs]
 refine n2 fun x _=>?_;simp[bv]
theorem Z88(w:World){ok:Nat->Prop}(src e dst:TypeId)(hs:P.underlying src=some (.slice e))(he:P.underlying e=some (.int .u8))(hd:P.underlying dst=some .string)(A:Option Addr)(xs:List UInt8)(cap:Nat)(hr:Rd w ok A (xs.map B)) :
  (convert src dst (.slice A xs.length cap)).run P w=.ok (.string ⟨xs.toArray⟩) w:=by
 cases A with
 | none =>
  have : xs=[]:=by
   cases xs with
   | nil=>rfl
   | cons x xs=>obtain⟨_,h,_⟩:=hr (by simp);cases h
  subst this;exact run_convert_bytes_nil (P:=P) w src e hs he _ cap dst hd
 | some ad =>
  have hl:(loadCells ad xs.length).run P w=.ok ((xs.map bv).map (l2 .u8)).toArray w:=by
   have:=run_loadCells_list (P:=P) w ad ((xs.map bv).map (l2 .u8)) (fun j v hv=>by
    have hv':(xs.map B)[j]?=some v:=by rw[nJ] at hv;exact hv
    obtain⟨ad',h,_,hc⟩:=hr (by have:=(l5.1 hv').1;omega)
    injection h with h
    subst h;exact hc j v hv')
   simpa using this
  rw[run_convert_bytes_string w src dst e _ _ cap hs he hd,run_bytesToString w _ _ cap _ hl,foldl_push_bytes,Zez];simp[ByteArray.empty,ByteArray.emptyWithCapacity];rfl
theorem Z89{ops:Array Oper}{rest:List Oper}{o:Oper}{a:Act}{w:World}{Q:Exit->Act->World->Prop}{ok:Nat->Prop}(hgd:o.guard=none)(src dst:TypeId)(x:Operand)(ho:o.op=.convert src dst x)
  (e:TypeId) (hs:P.underlying src=some (.slice e)) (he:P.underlying e=some (.int .u8)) (hd:P.underlying dst=some .string) (A:Option Addr) (xs:List UInt8) (cap:Nat) (hx:a.eval x=.slice A xs.length cap) (hr:Rd w ok A (xs.map B))
  (h:wpList P ops Q rest (a.put o.dst (.string ⟨xs.toArray⟩)) w):wpList P ops Q (o :: rest) a w:=by
 refine G4 _ ho hgd _ ?_ h;simp only[execOp,ho,hx,lD,Z88 w src e dst hs he hd A xs cap hr,lC,lE]
theorem Z0t{ops:Array Oper}{rest:List Oper}{o:Oper}{a:Act}{C:World->Prop}{Q:Act->Prop}{ok:Nat->Prop}(src dst:TypeId)(x:Operand)(ho:o.op=.convert src dst x)(hgd:o.guard=none)
  (e:TypeId) (hs:P.underlying src=some (.slice e)) (he:P.underlying e=some (.int .u8)) (hd:P.underlying dst=some .string) (A:Option Addr) (xs:List UInt8) (cap:Nat) (hx:a.eval x=.slice A xs.length cap) (hr:∀ w,C w->Rd w ok A (xs.map B))
  (h:wpQuiet P ops C Q rest (a.put o.dst (.string ⟨xs.toArray⟩))):wpQuiet P ops C Q (o :: rest) a:=by
 refine Yp _ ho hgd _ (fun w hw=>?_) h;simp only[execOp,ho,hx,lD,Z88 w src e dst hs he hd A xs cap (hr w hw),lC,lE]
end
end
section
open Go.RowKit
def X1(W:World):Type:={ x:World // Below W.heap.size W x }
theorem Qt(W:World):Nonempty (X1 W):=⟨⟨W,lM _ _⟩⟩
section
variable {P:Program}
theorem Kj{id:Nat}{Q:Exit->Act->World->Prop}{a:Act}{w:World}{l:List Oper}(hm:P.follows .mixedOrders=true)(hB:Region.lexB .any l.toArray=true)
  (h:wpQuiet P l.toArray (fun w'=>∃ s:X1 w,w'=s.1) (fun a'=>∀ w',(∃ s:X1 w,w'=s.1)->Q .normal a' w') l a):(lV id l.toArray true).wp P Q a w :=
 wp_region_quiet (C:=fun w'=>∃ s:X1 w,w'=s.1) hm hB ⟨⟨w.drew,(lM _ _).drew⟩,rfl⟩ (by simpa using h)
theorem Vq{f:FuncId}{args:Array Value}{W:World}{v:Value}(s:X1 W)(h:Calls P f args s.1 fun e w'=>e=.returned v/\Below s.1.heap.size s.1 w') :
  Calls P f args s.1 fun e w''=>e=.returned v/\∃ s':X1 W,w''=s'.1 :=
 h.mono fun _ w' ⟨he,hb⟩=>⟨he,⟨w',s.2.trans (hb.mono s.2.size)⟩,rfl⟩
theorem Z4j{W:World}{g:Nat}{t:TypeId}{cs:List Value}(h:Blk W g t cs)(s:X1 W):Blk s.1 g t cs:=h.below s.2 h.lt
end
end
end
section
set_option maxRecDepth 100000
set_option maxHeartbeats 1000000
open Go.Lib renaming hid → iD
open Go.Proofs.Tryz
section
open Go.RowKit
theorem Yk(l:List UInt8):∀ v ∈ l.map B,v.oneCell'=true:=by
 intro v hv;obtain⟨x,_,rfl⟩:=List.mem_map.1 hv;rfl
def Z3:List Value:=nK 32 (B 0)
theorem Z4k:(lB.info? 47).map (fun i=>(i.zero,i.size))=some (some (.agg Z3.toArray),32):=by kernel_rfl
theorem Z2f:InfoOf lB 5 (B 0) 1 1:=⟨by kernel_rfl,rfl,by decide⟩
end
section
open Go.RowKit
def Z8a:List UInt8:=[48,49,50,51,52,53,54,55,56,57,97,98,99,100,101,102]
def O3(n:Nat):UInt8:=Z8a.getD n 0
def Xy(d:List UInt8):List UInt8:=d.flatMap fun x=>[O3 (x.toNat / 16),O3 (x.toNat % 16)]
def Z2g:ByteArray:=⟨Z8a.toArray⟩
theorem hi_eq(x:UInt8):bv x / 16=((x.toNat / 16:Nat):Int):=by unfold bv;omega
theorem lo_eq(x:UInt8):bits .and .u8 (bv x) 15=((x.toNat % 16:Nat):Int):=by
 have h:(15:Int)=bv 15:=by decide
 rw[h,b_and];unfold bv;rw[UInt8.toNat_and];exact congrArg _ (Nat.and_two_pow_sub_one_eq_mod x.toNat 4)
theorem Zf0(n:Nat)(hn:n<16)(w:World):(nL 9 (.string Z2g) (.int .u8 (n:Int))).run lB w=.ok (B (O3 n)) w:=by
 obtain rfl | rfl | rfl | rfl | rfl | rfl | rfl | rfl | rfl | rfl | rfl | rfl | rfl | rfl | rfl | rfl:n=0 ∨ n=1 ∨ n=2 ∨ n=3 ∨ n=4 ∨ n=5 ∨ n=6 ∨ n=7 ∨ n=8 ∨ n=9 ∨ n=10 ∨ n=11 ∨ n=12 ∨ n=13 ∨ n=14 ∨ n=15:=by omega
 all_goals kernel_rfl
theorem Zf1(d:List UInt8)(hd:d.length=32)(k:Nat)(hk:k<32)(w:World):(nL 47 (.agg (d.map B).toArray) (.int .i64 (k:Int))).run lB w=.ok (B (d.getD k 0)) w:=by
 have h1:(sizeOf 5).run lB w=.ok 1 w:=by kernel_rfl
 simp[nL,asIntOf,lI underlying47,h1,part,hd,hk]
theorem Z8b{ops:Array Oper}{rest:List Oper}{o:Oper}{a:Act}{C:World->Prop}{Q:Act->Prop}(y:Operand)(ho:o.op=.index 9 (.const (.string Z2g)) y)(hgd:o.guard=none)
  (n:Nat) (hn:n<16) (hy:a.eval y=.int .u8 (n:Int)) (h:wpQuiet lB ops C Q rest (a.put o.dst (B (O3 n)))):wpQuiet lB ops C Q (o :: rest) a:=by
 refine Yp _ ho hgd _ (fun w _=>?_) h;have e:a.eval (.const (.string Z2g))=.string Z2g:=rfl;simp only[execOp,ho,e,hy,lD,Zf0 n hn w,lC,lE]
theorem Zf2(d:List UInt8)(k:Nat)(hk:k<d.length):Xy (d.take (k+1))=Xy (d.take k)++[O3 ((d.getD k 0).toNat / 16),O3 ((d.getD k 0).toNat % 16)]:=by
 rw[List.take_succ_eq_append_getElem hk];unfold Xy;rw[List.flatMap_append];simp[hk]
theorem Z0u(d:List UInt8):(Xy d).length=2*d.length:=by
 induction d with
 | nil=>rfl
 | cons x d ih=>simp only[Xy,List.flatMap_cons,n4,lU,List.length_nil] at ih ⊢;omega
attribute [local go_sem] hi_eq lo_eq
theorem Z8c(d:List UInt8)(hd:d.length=32)(w:World) :
  Calls lB 111 #[.agg (d.map B).toArray] w fun e w'=>e=.returned (.string ⟨(Xy d).toArray⟩)/\Below w.heap.size w w':=by
 have hsz0:(lB.info? 47).map (·.size)=some (d.map B).length:=by rw[nM,hd];kernel_rfl
 replace hsz0:=iD hsz0;replace hd:=iD hd;go_enter func111,ntmps111;go_wp2_with (refine Y0 rfl 47 (.tmp 1) rfl w.heap.size rfl 47 (d.map B) (Blk.new_at rfl) _ underlying47 rfl hsz0.out ?_);go_loopw [7,3] (fun i v wr=>∃ k:Nat,k<=32/\i=.int .i64 (k:Int)/\wr.ownsRow (w.heap.size+1) 5 1 v (Xy (d.take k)).length ((Xy (d.take k)).map B)/\Below w.heap.size w wr/\w.heap.size+1<=wr.heap.size) (fun i _ _=>32 - (intOf i).toNat)
 case atStart=>exact⟨0,by omega,rfl,World.ownsRow_nil _ _ _ _,bL,by simp⟩
 case round =>
  obtain⟨k,hk,rfl,hown,hb,hsz⟩:=hrel;obtain⟨ys,hys⟩:∃ ys,ys=Xy (d.take k):=⟨_,rfl⟩;rw[<-hys] at hown;obtain⟨A,cap,rfl,hcap,hcap2⟩:=Z6 hown;have hyl:ys.length<=64:=by rw[hys,Z0u,List.length_take];omega
  replace hys:=iD hys;by_cases hlt:k<32
  ·obtain⟨x,hx⟩:∃ x,x=d.getD k 0:=⟨_,rfl⟩;have hidx:=Zf1 d hd.out k hlt;rw[<-hx] at hidx;replace hx:=iD hx;have hxlt:=x.toNat_lt;go_wp2;refine Z87 (C:=fun w'=>∃ n,w'=wr.drewN n) [0,1,2,3,4,5,6] [] 7 [8,9] (by kernel_rfl) (by kernel_rfl) (fun _ d _ _ _ h=>by cases d <;> exact h) ⟨1,rfl⟩ ?_;simp only[Zj,lN,nZ,Yw,Ys];repeat (first
    | (refine Z8b (.tmp 12) rfl rfl (x.toNat / 16) (by omega) ?_ ?_;exact congrArg (l2 .u8) (show ((x.toNat:Int) / 16)=((x.toNat / 16:Nat):Int) by omega);go_frame)
    | (refine Z8b (.tmp 15) rfl rfl (x.toNat % 16) (by omega) ?_ ?_;exact congrArg (l2 .u8) (show ((x.toNat:Int) % 16)=((x.toNat % 16:Nat):Int) by omega);go_frame)
    | go_big_quiet_step (fail))
   refine nN ?_;refine nN ?_;rintro _ ⟨nq,rfl⟩;replace hown:(wr.drewN nq).ownsRow (w.heap.size+1) 5 1 (.slice A ys.length cap) ys.length (ys.map B):=hown;replace hb:=below_drewN hb nq;have hsz2:(wr.drewN nq).heap.size=wr.heap.size:=rfl;rw[<-hsz2] at hsz;clear hsz2;generalize wr.drewN nq=wr at hown hb hsz ⊢;go_wp2_with (at_builtin;refine X0 _ rfl (.tmp 10) (.tmp 17) 99 rfl (w.heap.size+1) 5 (B 0) 1 1 underlying99 Z2f (.slice A ys.length cap) ys.length (ys.map B) rfl (hown.alloc _) (· = wr.heap.size) (some ⟨wr.heap.size,0,none⟩) 2 2 [B (O3 (x.toNat / 16)),B (O3 (x.toNat % 16))] rfl rfl (Rd.of_blk (r:=[]) (Blk.new_at rfl) rfl rfl) (by simp[Value.oneCell']) (by unfold maxLen;omega) (by omega) (by simp;omega) ?_;intro v' w' hown' hg' _);go_roundw
   case rel =>
    refine⟨k+1,by omega,by go_num,?_,?_,?_⟩
    ·rw[Zf2 d k (by rw[hd.out];exact hlt),<-hx.out,<-hys.out,n4,List.map_append];exact hown'
    ·exact (hb.alloc (by omega) _).trans ((Yd (hown.alloc _) hg' (by simp;omega)).mono (by omega))
    ·have:=hg'.size;simp at this;omega
   case measure=>simp[intOf];omega
  ·obtain rfl:k=32:=by omega
   have hfin:ys=Xy d:=by rw[hys.out,List.take_of_length_le (by rw[hd.out];omega)]
   have hrd:=Ua hown;go_wp2_with (refine Z89 rfl 99 9 (.tmp 20) rfl 5 underlying99 underlying5 underlying9 A ys cap rfl hrd ?_);go_ret;exact⟨rfl,hb⟩
end
section
open Go.RowKit
def Z8d(c:UInt8):Nat:=if 48<=c/\c<=57 then c.toNat - 48 else if 97<=c/\c<=102 then c.toNat - 97+10 else 16
def Z4l(l:List UInt8):Nat->List UInt8
 | 0=>nK 32 0
 | k+1=>(Z4l l k).set (k / 2) ((Z4l l k).getD (k / 2) 0*16+nF (Z8d (l.getD k 0)))
def pok(l:List UInt8):Bool:=decide (l.length=64) && l.all (fun c=>decide (Z8d c<16))
def pd(l:List UInt8):List UInt8:=if pok l then Z4l l 64 else nK 32 0
theorem Ub{P:Program}{fn:Func}{R:Ending->World->Prop}{a:Act}{w:World}{p u:Tmp}{ty:TypeId}(hres:fn.results=#[.cell p ty,.tmp u])(g:Nat)(t:TypeId)(cs:List Value)(d:TypeDesc)(v2:Value)
  (hp:a.tmps.getD p undef=.pointer (some ⟨g,0,none⟩)) (hv:a.tmps.getD u undef=v2) (hg:Blk w g t cs) (hu:P.underlying ty=some d) (hd:(match d with | .struct _ | .array _ _=>true | _=>false)=true)
  (hi:(P.info? ty).map (·.size)=some cs.length) (hdef:a.defers=[]) (hR:R (.returned (.tuple #[.agg cs.toArray,v2])) w):bodyPost P fn R .ret a w:=by
 refine bodyPost_ret ?_ hdef hR;rw[results_cell_tmp hres,hp,hv];have h1:(asAddr (.pointer (some ⟨g,0,none⟩))).run P w=.ok (⟨g,0,none⟩:Addr) w:=by simp[asAddr]
 rw[h1,lC,run_loadVar_row w g t ty cs.toArray (0,0) d hg hu hd (by simpa using hi),lC]
end
section
end
section
open Go.RowKit
section
variable {P:Program}
theorem Z8e(w:World)(e:TypeId)(k:IntKind)(he:P.underlying e=some (.int k))(cs:List Value)(i:Nat)(v:Value)(h:cs[i]?=some v):(part e cs.toArray i).run P w=.ok v w:=by
 simp[part,isAgg,lI he,h]
theorem Z2h(x y:UInt8):(bv x == bv y)=(x == y):=by
 rw[Bool.eq_iff_iff,beq_iff_eq,beq_iff_eq];exact⟨Z7t,fun h=>by rw[h]⟩
theorem Z2i(w:World)(D:Nat)(t e:TypeId)(n:Nat)(ht:P.underlying t=some (.array n e))(he:P.underlying e=some (.int .u8))(hs:(P.info? e).map (·.size)=some 1)(xs ys:List UInt8)(hx:xs.length=n)(hy:ys.length=n)
  (hin:∀ a b:UInt8,(nO D e (B a) (B b)).run P w=.ok (a == b) w) :
  (nO (D+1) t (.agg (xs.map B).toArray) (.agg (ys.map B).toArray)).run P w=.ok (xs == ys) w:=by
 cases hq:P.info? e with
 | none=>simp[hq] at hs
 | some inf =>
  have hi:inf.size=1:=by simpa[hq] using hs
  have hsz:(sizeOf e).run P w=.ok 1 w:=by simp[sizeOf,typeInfo,hq,hi]
  simp only[nO,lD,lI ht,lC,hsz,Std.Legacy.Range.forIn_eq_forIn_range',Std.Legacy.Range.size];have e0:(xs == ys)=(xs.drop 0 == ys.drop 0):=by simp
  rw[e0];have e1:(n - 0+1 - 1) / 1=n:=by omega
  rw[e1];have him:0+n=xs.length:=by omega
  have hiy:0+n=ys.length:=by omega
  clear hx hy ht e0 e1;generalize (0:Nat)=i at him hiy ⊢;induction n generalizing i with
  | zero =>
   have h1:xs.drop i=[]:=n5 (by omega);have h2:ys.drop i=[]:=n5 (by omega);rw[h1,h2];simp
  | succ m ih =>
   have hxi:i<xs.length:=by omega
   have hyi:i<ys.length:=by omega
   have px:=Z8e (P:=P) w e .u8 he (xs.map B) i (B xs[i]) (by simp[hxi]);have py:=Z8e (P:=P) w e .u8 he (ys.map B) i (B ys[i]) (by simp[hyi]);have he2:=hin xs[i] ys[i];simp only[List.range'_succ,List.forIn_cons,Nat.mul_one,lD,px,py,lC,he2,Sem.run_ite];rw[n6 hxi,n6 hyi];cases hb:(xs[i] == ys[i]) with
   | true =>
    simp only[Bool.not_true,Bool.false_eq_true,if_false,lE,lC,List.cons_beq_cons,hb,Bool.true_and];have:=ih (i+1) (by omega) (by omega);simp only[Nat.mul_one] at this;exact this
   | false =>
    simp only[Bool.not_false,if_true,lE,lC,List.cons_beq_cons,hb,Bool.false_and]
theorem Zf3(w:World)(t e:TypeId)(n:Nat)(ht:P.underlying t=some (.array n e))(he:P.underlying e=some (.int .u8))(hs:(P.info? e).map (·.size)=some 1)(xs ys:List UInt8)(hx:xs.length=n)(hy:ys.length=n) :
  (binOp .eql t (.agg (xs.map B).toArray) (.agg (ys.map B).toArray)).run P w=.ok (.bool (xs == ys)) w:=by
 rw[run_eql_struct,Z2i (P:=P) w 9999 t e n ht he hs xs ys hx hy (fun a b=>by rw[run_equalIn_int (P:=P) w 9998 e .u8 .u8 (bv a) (bv b) he,Z2h])];rfl
theorem Zf4(w:World)(t e:TypeId)(n:Nat)(ht:P.underlying t=some (.array n e))(he:P.underlying e=some (.int .u8))(hs:(P.info? e).map (·.size)=some 1)(xs ys:List UInt8)(hx:xs.length=n)(hy:ys.length=n) :
  (binOp .neq t (.agg (xs.map B).toArray) (.agg (ys.map B).toArray)).run P w=.ok (.bool (!(xs == ys))) w:=by
 rw[run_neq_struct,Z2i (P:=P) w 9999 t e n ht he hs xs ys hx hy (fun a b=>by rw[run_equalIn_int (P:=P) w 9998 e .u8 .u8 (bv a) (bv b) he,Z2h])];rfl
end
theorem Zf5(w:World){o:Oper}{a:Act}{x y:Operand}{yt:TypeId}(ho:o.op=.binOp .eql 47 x y yt)(xs ys:List UInt8)(hxe:a.eval x=.agg (xs.map B).toArray)(hye:a.eval y=.agg (ys.map B).toArray)(hx:xs.length=32)(hy:ys.length=32) :
  (execOp a.eval o).run lB w=.ok (.value (.bool (xs == ys))) w:=by
 have h1:(eqGuard .eql 47 x y (.agg (xs.map B).toArray) (.agg (ys.map B).toArray)).run lB w=.ok () w:=run_eqGuard_agg (P:=lB) w .eql 47 x y _ _ (by kernel_rfl);simp only[execOp,ho,hxe,hye,lD,h1,lC,Zf3 (P:=lB) w 47 5 32 underlying47 underlying5 (by kernel_rfl) xs ys hx hy,lE]
theorem Zf6(w:World){o:Oper}{a:Act}{x y:Operand}{yt:TypeId}(ho:o.op=.binOp .neq 47 x y yt)(xs ys:List UInt8)(hxe:a.eval x=.agg (xs.map B).toArray)(hye:a.eval y=.agg (ys.map B).toArray)(hx:xs.length=32)(hy:ys.length=32) :
  (execOp a.eval o).run lB w=.ok (.value (.bool (!(xs == ys)))) w:=by
 have h1:(eqGuard .neq 47 x y (.agg (xs.map B).toArray) (.agg (ys.map B).toArray)).run lB w=.ok () w:=run_eqGuard_agg (P:=lB) w .neq 47 x y _ _ (by kernel_rfl);simp only[execOp,ho,hxe,hye,lD,h1,lC,Zf4 (P:=lB) w 47 5 32 underlying47 underlying5 (by kernel_rfl) xs ys hx hy,lE]
theorem O4{ops:Array Oper}{rest:List Oper}{o:Oper}{a:Act}{w:World}{Q:Exit->Act->World->Prop}(hgd:o.guard=none)(x y:Operand)(yt:TypeId)(ho:o.op=.binOp .eql 47 x y yt)
  (xs ys:List UInt8) (hxe:a.eval x=.agg (xs.map B).toArray) (hye:a.eval y=.agg (ys.map B).toArray) (hx:xs.length=32) (hy:ys.length=32)
  (h:wpList lB ops Q rest (a.put o.dst (.bool (xs == ys))) w):wpList lB ops Q (o :: rest) a w :=
 G4 _ ho hgd _ (Zf5 w ho xs ys hxe hye hx hy) h
end
section
open Go.RowKit
def Ze(a b:List UInt8):Bool:=Op.bytesLess a b
theorem G5(a:List UInt8):Ze a a=false:=by
 unfold Ze;induction a with
 | nil=>rfl
 | cons x a ih=>simp[Op.bytesLess,ih]
theorem Z2j(a b:List UInt8)(ha:a.length=32)(hb:b.length=32)(w:World) :
    Calls lB 136 #[.agg (a.map B).toArray,.agg (b.map B).toArray] w fun e w'=>e=.returned (.bool (Ze a b))/\Below w.heap.size w w':=by
  have hsa:(lB.info? 47).map (·.size)=some (a.map B).length:=by rw[nM,ha];kernel_rfl
  have hsb:(lB.info? 47).map (·.size)=some (b.map B).length:=by rw[nM,hb];kernel_rfl
  replace hsa:=iD hsa;replace hsb:=iD hsb;replace ha:=iD ha;replace hb:=iD hb;go_enter func136,ntmps136;go_wp2_with (first
    | (refine Y0 rfl 47 (.tmp 2) rfl w.heap.size rfl 47 (a.map B) ((Blk.new_at rfl).alloc _) _ underlying47 rfl hsa.out ?_)
    | (refine Y0 rfl 47 (.tmp 3) rfl (w.heap.size+1) rfl 47 (b.map B) (Blk.new_at (by simp)) _ underlying47 rfl hsb.out ?_)
    | (refine O4 rfl (.tmp 5) (.tmp 6) _ rfl a b rfl rfl ha.out hb.out ?_))
  · go_ret
    refine⟨?_,bL.alloc (by simp) _⟩;have : a=b:=by simpa using ‹(a == b)=true›
    rw[this,G5];rfl
  · go_frame
    have hB1:Blk ((w.alloc (.cells (a.map B).toArray 47)).alloc (.cells (b.map B).toArray 47)) w.heap.size 47 (a.map B):=(Blk.new_at rfl).alloc _;have hB2:Blk ((w.alloc (.cells (a.map B).toArray 47)).alloc (.cells (b.map B).toArray 47)) (w.heap.size+1) 47 (b.map B):=Blk.new_at (by simp);have hbl:Below w.heap.size w ((w.alloc (.cells (a.map B).toArray 47)).alloc (.cells (b.map B).toArray 47)):=bL.alloc (by simp) _;generalize (w.alloc (.cells (a.map B).toArray 47)).alloc (.cells (b.map B).toArray 47)=w1 at hB1 hB2 hbl ⊢;refine wp_region_quiet_lit (by kernel_rfl) (by kernel_rfl) ?_;repeat (first
      | (refine Z0t (ok:=fun _=>True) 99 9 (.tmp 8) rfl rfl 5 underlying99 underlying5 underlying9 (some ⟨w.heap.size,0,none⟩) a 32 (by rw[ha.out];rfl) (fun w' hw=>?_) ?_
         · obtain⟨n,rfl⟩:=hw
           exact Rd.of_blk (r:=[]) (hB1.drewN n) (by simp) trivial
         go_frame)
      | (refine Z0t (ok:=fun _=>True) 99 9 (.tmp 10) rfl rfl 5 underlying99 underlying5 underlying9 (some ⟨w.heap.size+1,0,none⟩) b 32 (by rw[hb.out];rfl) (fun w' hw=>?_) ?_
         · obtain⟨n,rfl⟩:=hw
           exact Rd.of_blk (r:=[]) (hB2.drewN n) (by simp) trivial
         go_frame)
      | go_big_quiet_step (fail))
    refine nN ?_;rintro _ ⟨nq,rfl⟩;go_wp2;go_ret;exact⟨rfl,below_drewN hbl nq⟩
end
section
open Go.RowKit
end
section
open Go.RowKit
theorem Zf7(a b:List UInt8):(⟨a.toArray⟩++⟨b.toArray⟩:ByteArray)=⟨(a++b).toArray⟩:=by
 apply ByteArray.ext;simp
end
end
section
set_option maxHeartbeats 400000
open Go.Proofs.Tryz
open Go.RowKit
theorem Zhw{k:IntKind}{a b:Int}(h:a=b):Ending.returned (.int k a)=.returned (.int k b):=by rw[h]
theorem Zhx(x:UInt32)(k:Nat) :
  bits .or .u32 ((wv x) / 2 ^ k) ((wv x)*2 ^ (32 - k) % 4294967296)=(wv (Kh x k)):=by
 rw[Gv,Z2d,w_or,Kh]
theorem Zhy(x y:Int):bits .or .u32 x y=bits .or .u32 y x:=by
 show IntKind.u32.wrap ((lF 32 x ||| lF 32 y).toNat:Int)=IntKind.u32.wrap ((lF 32 y ||| lF 32 x).toNat:Int);rw[BitVec.or_comm]
theorem neg31(k:Nat)(hk:0<k)(hk2:k<32):bits .and .u64 (IntKind.u64.wrap (-(k:Int))) 31=((32 - k:Nat):Int):=by
 have : ∀ k:Fin 32,0<k.1->bits .and .u64 (IntKind.u64.wrap (-(k.1:Int))) 31=((32 - k.1:Nat):Int):=by decide
 exact this ⟨k,hk2⟩ hk
theorem Zhz(x:UInt32)(k:Nat)(w:World)(hk:0<k)(hk2:k<32) :
  Calls lB 263 #[.int .u32 (wv x),.int .i64 (-(k:Int))] w fun e w'=>e=.returned (.int .u32 (wv (Kh x k)))/\w=w':=by
 have hn:=neg31 k hk hk2;go_enter func263,ntmps263;go_wp2;go_ret;exact⟨Zhw (by rw[Zhy,show 32 - (32 - k)=k by omega,Zhx]),rfl⟩
theorem Zi0(x:UInt32)(k:Nat)(w:World)(hk:0<k)(hk2:k<32) :
  Calls lB 232 #[.int .u32 (wv x),.int .i64 (k:Int)] w fun e w'=>e=.returned (.int .u32 (wv (Kh x k)))/\w=w':=by
 go_enter func232,ntmps232;go_wp2_with (go_at_call 263;refine (Zhz x k _ hk hk2).mono ?_;rintro e w' ⟨rfl,rfl⟩);go_ret;exact⟨rfl,rfl⟩
theorem Z5q(x:UInt32)(n:Int)(w:World)(hk:0<n)(hk2:n<32) :
  Calls lB 232 #[.int .u32 (wv x),.int .i64 n] w fun e w'=>e=.returned (.int .u32 (wv (Kh x n.toNat)))/\w=w':=by
 have:=Zi0 x n.toNat w (by omega) (by omega)
 rwa [show ((n.toNat:Nat):Int)=n by omega] at this
end
section
open Go.ChangeShapes Go.WideShapes Go.ChangeAt Go.RowKit
section
variable {H:Type} {enc:TypeId × Value->H} {P:Program}
theorem Ze8(hl:laidOutB P=true){W W':World}(hb:Below W.heap.size W W'):∀ (ts:List TypeId) (vs:List Value) (ds:List (DataW H)) (ps:List MemPlace),
  (∀ t ∈ ts,P.readableRec t=true/\t<P.types.size)->DataW.TrodAll enc P W 0 (fun _=>true) true ts vs ds ps->(∀ x ∈ ps,x.block<W.heap.size) ->
  DataW.TrodAll enc P W' 0 (fun b=>decide (b<W.heap.size)) true ts vs ds ps
 | [],vs,ds,ps,_,h,_=>by
  obtain⟨rfl,rfl,rfl⟩:=trodAll_nil h;exact trodAll_mk0
 | t :: ts,vs,ds,ps,hr,h,hlt=>by
  obtain⟨v,vs',d,ds',p,q,rfl,rfl,rfl,h0,h1⟩:=trodAll_cons h;refine trodAll_cons_mk (Below.trod hl (hr t (by simp)).1 (hr t (by simp)).2 h0 hb (fun x hx=>hlt x (by simp[hx]))) ?_;exact Ze8 hl hb ts vs' ds' q (fun t ht=>hr t (by simp[ht])) h1 (fun x hx=>hlt x (by simp[hx]))
theorem law_post(hl:laidOutB P=true){f:Func}{s:ChangeSpec}{tb:TypeId}(hres:f.resultTypes=#[tb])(hb4:P.underlying tb=some .bool)(hvars:s.vars=[])
  (hpar:∀ t ∈ f.params.toList,P.readableRec t=true/\t<P.types.size) {W W':World} {args:Array Value} {ds gs:List (DataW H)} {before:List MemPlace}
  (hW:DataW.Whole enc P f.params.toList s.vars false W args.toList ds gs before) (hfn:s.fn H (ds++gs)={ results:=[.lit (.bool true)],args:=ds }) (hb:Below W.heap.size W W') :
  s.post enc P f false true false false W args (.bool true) W':=by
 have hW':=hW;obtain⟨p,q,hA,hV,rfl,_,_⟩:=hW;rw[hvars] at hV;obtain⟨rfl,rfl⟩:=trodVars_none hV;have hlt:∀ x ∈ p++[],x.block<W.heap.size:=fun x hx=>hW'.lt x hx;refine⟨ds,[],p++[],[],p,[],hW',?_,?_,?_,World.keptBut_mono (fun x hx=>⟨hx,.inr (by simpa using hx)⟩) (hb.frame (· ∈ p++[])),fun h=>by cases h⟩
 ·rw[hfn,hres];exact trodAll_mk1 (shut_bool hb4 _)
 ·rw[hfn];exact Ze8 hl hb _ _ _ _ hpar hA (fun x hx=>hlt x (by simpa using hx))
 ·rw[hfn,hvars];rfl
end
end
section

end
end Go.Proofs.YtfdimggmljkkbaaGreatDoor
