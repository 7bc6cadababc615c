/- Joined: Blk, Mem, Quiet, Mem2, Append, Word, Perm, Conv, BelowQ. -/
import Derived.WalkKit
import Derived.WalkSpells
import Derived.WalkLawsBesides
import Derived.Below
import Derived.Laws.OwnMore
import Derived.Deep.Draws
import Derived.Laws.Rows
import Derived.Lib.Hide
import Derived.StillTailTactics
import Derived.Laws.CopyOwn
import Derived.Deep.MidRow
import Derived.StillTail
import Derived.Deep.Quiet
import Derived.Maps.RangeWalk
import Derived.Maps.AppendAt
import Derived.Deep.AppendLies
import Derived.RegionTactic
import Derived.OwnWalk
import Derived.Laws.BytesArg
import Derived.Lib.SlBytesConst
import Derived.BigQuiet
import Derived.Test.YtamdhaoglapnnaaGreatDoorRows
import Derived.Deep.WholeRow
import Derived.BigRegion
import Derived.Deep.QuietTactic
import Derived.LoopTactic
import Derived.IntWalk
import Derived.WalkSmall
import Derived.Laws.ResultCell
import Derived.Laws.StructEq
section
section
/- Words for memory: a block that is known whole; a slice that reads as a list. After the kit's page of words. -/
namespace Go.Proofs.YtamdhaoglapnnaaGreatDoor
open Go.RowKit

/-- Block g is just the cells cs of element type t, none frozen. -/
def Blk (w : World) (g : Nat) (t : TypeId) (cs : List Value) : Prop := w.heap[g]? = some (.cells cs.toArray t (0, 0))
section
variable {w w' : World} {g : Nat} {t : TypeId} {cs : List Value}
theorem Blk.lt (h : Blk w g t cs) : g < w.heap.size := by
  rcases Nat.lt_or_ge g w.heap.size with hlt | hge
  · exact hlt
  · unfold Blk at h; rw [Array.getElem?_eq_none hge] at h; cases h
theorem Blk.cell (h : Blk w g t cs) (i : Nat) : w.cell? ⟨g, i, none⟩ = cs[i]? := by
  rw [cell_of_row w g i cs.toArray t (0, 0) h]; simp
theorem Blk.frozen (h : Blk w g t cs) (i : Nat) : w.frozen? ⟨g, i, none⟩ = false := by
  unfold Blk at h
  simp [World.frozen?, h]
theorem Blk.new (w : World) (t : TypeId) (cs : Array Value) : Blk (w.alloc (.cells cs t)) w.heap.size t cs.toList := heap_alloc_new w _
theorem Blk.new_at {w : World} {g : Nat} {t : TypeId} {cs : List Value} (h : g = w.heap.size) : Blk (w.alloc (.cells cs.toArray t)) g t cs := by
  subst h; exact heap_alloc_new w _
theorem Blk.drew (h : Blk w g t cs) : Blk w.drew g t cs := h
theorem Blk.drewN (h : Blk w g t cs) (n : Nat) : Blk (w.drewN n) g t cs := h
theorem Blk.alloc (h : Blk w g t cs) (o : Obj) : Blk (w.alloc o) g t cs := (Below.heap_alloc w o g h.lt).trans h
theorem Blk.set_ (h : Blk w g t cs) (i : Nat) (u : Value) : Blk (w.setCell ⟨g, i, none⟩ u) g t (cs.set i u) := by
  unfold Blk at h ⊢
  simp [World.setCell, Array.getElem?_modify, h]
theorem Blk.far (h : Blk w g t cs) {p : Addr} (hp : g ≠ p.block) (u : Value) : Blk (w.setCell p u) g t cs := (Below.heap_setCell w p u g hp).trans h
theorem Blk.setRow_same (h : Blk w g t cs) (cs' : List Value) : Blk (w.setRow g cs'.toArray) g t cs' := setRow_heap w g _ _ t _ h
theorem Blk.setRow_far (h : Blk w g t cs) {g' : Nat} (hg : g ≠ g') (c : Array Value) : Blk (w.setRow g' c) g t cs := (setRow_other w g' g c hg).trans h
theorem Blk.below {B : Nat} (h : Blk w g t cs) (hb : Below B w w') (hg : g < B) : Blk w' g t cs := (hb.block g hg).trans h
theorem Blk.grown {row : Option Nat} (h : Blk w g t cs) (hb : w.grownBy w' row) (hg : some g ≠ row) : Blk w' g t cs := (hb.block g h.lt hg).trans h
theorem Blk.ne_ {g' : Nat} {t' : TypeId} {cs' : List Value} (h : Blk w g t cs) (h' : Blk w g' t' cs') (hne : t ≠ t') : g ≠ g' := by
  rintro rfl
  unfold Blk at h h'
  rw [h] at h'
  injection h' with h'
  injection h' with _ ht
  exact hne ht
end

theorem addr_add (g o j : Nat) : (⟨g, o, none⟩ : Addr).add j = ⟨g, o + j, none⟩ := by unfold Addr.add; split <;> simp_all
/-- A part of a block, as the laws on copies and appends ask for their source. -/
theorem blk_src {w : World} {g : Nat} {t : TypeId} {cs : List Value} (h : Blk w g t cs) (o : Nat) (l r : List Value) (hl : cs.drop o = l ++ r) : ∀ j v, l[j]? = some v → w.cell? ((⟨g, o, none⟩ : Addr).add j) = some v := by
  intro j v hv
  rw [addr_add, h.cell]
  have : (cs.drop o)[j]? = some v := by
    rw [hl, List.getElem?_append_left (List.getElem?_eq_some_iff.1 hv).1]; exact hv
  simpa [List.getElem?_drop] using this

section
variable {P : Program}
/-- An operation whose run is known. (The operation is named, so that the law fits at no other.) -/
theorem wpList_run {ops : Array Oper} {rest : List Oper} {o : Oper} {a : Act} {w : World} {Q : Exit → Act → World → Prop} (op : Op) (_ho : o.op = op) (hgd : o.guard = none) (v : Value)
    (hrun : (execOp a.eval o).run P w = .ok (.value v) w) (h : wpList P ops Q rest (a.put o.dst v) w) : wpList P ops Q (o :: rest) a w := by
  refine wpList_plain hgd fun _ hK => ?_
  unfold Oper.wp
  rw [hrun]
  exact hK _ _ h
/-- A whole block is read. -/
theorem wpList_load_blk {ops : Array Oper} {rest : List Oper} {o : Oper} {a : Act} {w : World} {Q : Exit → Act → World → Prop} (hgd : o.guard = none) (ty : TypeId) (x : Operand) (ho : o.op = .load ty x)
    (g : Nat) (hx : a.eval x = .pointer (some ⟨g, 0, none⟩)) (t : TypeId) (cs : List Value) (hg : Blk w g t cs) (d : TypeDesc)
    (hu : P.underlying ty = some d) (hd : (match d with | .struct _ | .array _ _ => true | _ => false) = true) (hi : (P.info? ty).map (·.size) = some cs.length)
    (h : wpList P ops Q rest (a.put o.dst (.agg cs.toArray)) w) : wpList P ops Q (o :: rest) a w :=
  wpList_load_row hgd ty x ho g hx t cs.toArray (0, 0) d hg hu hd (by simpa using hi) h
/-- A whole block is written. -/
theorem wpList_store_blk {ops : Array Oper} {rest : List Oper} {op : Oper} {a : Act} {w : World} {Q : Exit → Act → World → Prop} (hgd : op.guard = none) (ty : TypeId) (x y : Operand) (ho : op.op = .store ty x y)
    (g : Nat) (cells : List Value) (hx : a.eval x = .pointer (some ⟨g, 0, none⟩)) (hy : a.eval y = .agg cells.toArray) (t : TypeId) (old : List Value) (hg : Blk w g t old) (hl : old.length = cells.length)
    (hi : (P.info? ty).map (·.size) = some cells.length) (h1 : ∀ v ∈ cells, v.oneCell' = true)
    (h : wpList P ops Q rest (a.put op.dst undef) (w.setRow g cells.toArray)) : wpList P ops Q (op :: rest) a w := by
  refine wpList_plain hgd fun _ hK => ?_
  unfold Oper.wp execOp
  simp only [ho, hx, hy, Instr.storeAt, Instr.sureAddr, Sem.run_bind, Sem.run_pure, Result.andThen_ok,
    run_storeVar_row (P := P) w g t ty old.toArray cells.toArray hg (by simpa using hi) (by simpa using hl) (all_oneCell_toArray h1)]
  exact hK _ _ h
/-- A part of a block is read. -/
theorem wpList_load_part {ops : Array Oper} {rest : List Oper} {op : Oper} {a : Act} {w : World} {Q : Exit → Act → World → Prop} (hgd : op.guard = none) (ty : TypeId) (x : Operand) (ho : op.op = .load ty x)
    (g o : Nat) (hx : a.eval x = .pointer (some ⟨g, o, none⟩)) (t : TypeId) (cs part r : List Value) (hg : Blk w g t cs) (hp : cs.drop o = part ++ r) (d : TypeDesc)
    (hu : P.underlying ty = some d) (hd : d.isRow = true) (hi : (P.info? ty).map (·.size) = some part.length)
    (h : wpList P ops Q rest (a.put op.dst (.agg part.toArray)) w) : wpList P ops Q (op :: rest) a w :=
  wpList_load_mid hgd ty x ho g o hx part d (fun j v hv => by have := blk_src hg o part r hp j v hv; rwa [addr_add] at this) hu hd hi h
/-- A part of a block is written. -/
theorem wpList_store_part {ops : Array Oper} {rest : List Oper} {op : Oper} {a : Act} {w : World} {Q : Exit → Act → World → Prop} (hgd : op.guard = none) (ty : TypeId) (x y : Operand) (ho : op.op = .store ty x y)
    (g o : Nat) (cells : List Value) (hx : a.eval x = .pointer (some ⟨g, o, none⟩)) (hy : a.eval y = .agg cells.toArray) (t : TypeId) (old : List Value) (hg : Blk w g t old) (hl : o + cells.length ≤ old.length)
    (hi : (P.info? ty).map (·.size) = some cells.length) (h1 : ∀ v ∈ cells, v.oneCell' = true)
    (h : wpList P ops Q rest (a.put op.dst undef) (w.setRow g (splice old o cells).toArray)) : wpList P ops Q (op :: rest) a w := by
  refine wpList_plain hgd fun _ hK => ?_
  have hst := run_storeCells_at P g o t cells 0 old.toArray w hg (by simpa using hl) h1
  cases hq : P.info? ty with
  | none => simp [hq] at hi
  | some i =>
    have hs : cells.length = i.size := by simp [hq] at hi; omega
    simp only [Nat.add_zero] at hst
    have hrun : (storeVar ty ⟨g, o, none⟩ (.agg cells.toArray)).run P w = .ok () (w.setRow g (splice old o cells).toArray) := by
      simp [storeVar, sizeOf, typeInfo, hq, Value.cells, hs, hst, splice]
    unfold Oper.wp execOp
    simp only [ho, hx, hy, Instr.storeAt, Instr.sureAddr, Sem.run_bind, Sem.run_pure, Result.andThen_ok, hrun]
    exact hK _ _ h
/-- The end of a function whose result lies in a block. -/
theorem ret_blk {fn : Func} {R : Ending → World → Prop} {a : Act} {w : World} {p : Tmp} {ty : TypeId} (hres : fn.results = #[.cell p ty]) (g : Nat) (t : TypeId) (cs : List Value) (d : TypeDesc)
    (hp : a.tmps.getD p undef = .pointer (some ⟨g, 0, none⟩)) (hg : Blk w g t cs) (hu : P.underlying ty = some d) (hd : (match d with | .struct _ | .array _ _ => true | _ => false) = true)
    (hi : (P.info? ty).map (·.size) = some cs.length) (hdef : a.defers = []) (hR : R (.returned (.agg cs.toArray)) w) : bodyPost P fn R .ret a w :=
  bodyPost_ret (results_cell_row hres a.tmps w g t cs.toArray (0, 0) d hp hg hu hd (by simpa using hi)) hdef hR
end

/-- copy(d, s) into a block that is known whole. -/
theorem wpList_copy_blk {P : Program} {w : World} {ops : Array Oper} {rest : List Oper} {o : Oper} {a : Act} {Q : Exit → Act → World → Prop} (hgd : o.guard = none) (d s : Operand) (dT sT : TypeId)
    (ho : o.op = .call { callee := .builtin .copy, args := #[d, s], argTypes := #[dT, sT] }) (elem : TypeId) (hu : P.underlying dT = some (.slice elem)) (hsz : (P.info? elem).map (·.size) = some 1)
    (g off dLen dCap : Nat) (ad : Addr) (sLen sCap : Nat) (hd : a.eval d = .slice (some ⟨g, off, none⟩) dLen dCap) (hs : a.eval s = .slice (some ad) sLen sCap)
    (cur : List Value) (t : TypeId) (hg : Blk w g t cur) (cs : List Value) (hn : cs.length = Nat.min sLen dLen)
    (hsrc : ∀ j v, cs[j]? = some v → w.cell? (ad.add j) = some v) (hfit : off + cs.length ≤ cur.length) (h1 : ∀ v ∈ cs, v.oneCell' = true)
    (h : wpList P ops Q rest (a.put o.dst (goInt cs.length)) (w.setRow g (splice cur off cs).toArray)) : wpList P ops Q (o :: rest) a w :=
  wpList_copy_own hgd d s dT sT ho elem hu hsz g off dLen dCap ad sLen sCap hd hs cur.toArray t hg cs hn hsrc (by simpa using hfit) h1 h

/-- A region that draws its order: n operations that leave the world alone, then a tail in one order: the kit's law, the world folded. -/
theorem still_tail {P : Program} {id : Nat} {Q : Exit → Act → World → Prop} {a : Act} {w : World} {l : List Oper} (n : Nat) (hm : P.follows .mixedOrders = true) (hB : Region.lexTailB .any l.toArray n = true)
    (h : wpStill P l.toArray w.drew (fun a' => wpList P l.toArray Q (l.drop n) a' w.drew) (l.take n) a) : (Code.region id l.toArray true).wp P Q a w :=
  wp_region_still_tail n hm hB h
end Go.Proofs.YtamdhaoglapnnaaGreatDoor
end

section
/- A slice that reads as a list, nil let in; blocks kept beside one that is written. -/
namespace Go.Proofs.YtamdhaoglapnnaaGreatDoor
open Go.RowKit

theorem block_add (a : Addr) (n : Nat) : (a.add n).block = a.block := by unfold Addr.add; split <;> rfl
theorem add_add (a : Addr) (i j : Nat) : (a.add i).add j = a.add (i + j) := by
  unfold Addr.add
  by_cases hi : i = 0 <;> by_cases hj : j = 0 <;> simp [hi, hj, Nat.add_assoc]

/-- The slice value '.slice A n c' (n = xs.length) holds the cells xs, in a block of which 'ok' holds. -/
def Rd (w : World) (ok : Nat → Prop) (A : Option Addr) (xs : List Value) : Prop :=
  0 < xs.length → ∃ ad, A = some ad ∧ ok ad.block ∧ ∀ j u, xs[j]? = some u → w.cell? (ad.add j) = some u
section
variable {w w' : World} {ok ok' : Nat → Prop} {A : Option Addr} {xs : List Value}
theorem Rd.nil : Rd w ok A [] := fun h => absurd h (by simp)
theorem Rd.keep (h : Rd w ok A xs) (hk : ∀ p : Addr, ok p.block → w'.cell? p = w.cell? p) : Rd w' ok A xs := fun hn => by
  obtain ⟨ad, e, hb, hc⟩ := h hn
  exact ⟨ad, e, hb, fun j u hu => (hk _ (by rw [block_add]; exact hb)).trans (hc j u hu)⟩
theorem Rd.weak (h : Rd w ok A xs) (hk : ∀ b, b < w.heap.size → ok b → ok' b) : Rd w ok' A xs := fun hn => by
  obtain ⟨ad, e, hb, hc⟩ := h hn
  refine ⟨ad, e, hk _ ?_ hb, hc⟩
  have := hc 0 xs[0] (List.getElem?_eq_getElem hn)
  have h2 := World.block_lt_of_cell? _ _ this
  rwa [block_add] at h2
theorem Rd.below {B : Nat} (h : Rd w (· < B) A xs) (hb : Below B w w') : Rd w' (· < B) A xs := h.keep fun _ hp => hb.cell hp
theorem Rd.drewN (h : Rd w ok A xs) (n : Nat) : Rd (w.drewN n) ok A xs := h
theorem Rd.drew (h : Rd w ok A xs) : Rd w.drew ok A xs := h
theorem Rd.grown {row : Option Nat} (h : Rd w (some · ≠ row) A xs) (hg : w.grownBy w' row) : Rd w' (some · ≠ row) A xs := fun hn => by
  obtain ⟨ad, e, hb, hc⟩ := h hn
  refine ⟨ad, e, hb, fun j u hu => ?_⟩
  have h1 := hc j u hu
  have hlt := World.block_lt_of_cell? _ _ h1
  rw [World.cell?_of_block (hg.block _ hlt (by rw [block_add]; exact hb))]; exact h1
theorem Rd.cut (h : Rd w ok A xs) {k cap : Nat} (hc : xs.length ≤ cap) : Rd w ok (if cap = k then A else A.map (·.add k)) (xs.drop k) := fun hn => by
  have hk : k < xs.length := by simp at hn; omega
  obtain ⟨ad, rfl, hb, hcell⟩ := h (by omega)
  rw [if_neg (by omega)]
  refine ⟨ad.add k, rfl, by rw [block_add]; exact hb, fun j u hu => ?_⟩
  rw [add_add]
  exact hcell _ u (by rw [← hu, List.getElem?_drop])
theorem Rd.take (h : Rd w ok A xs) (k : Nat) : Rd w ok A (xs.take k) := fun hn => by
  have hk : 0 < xs.length := by simp at hn; omega
  obtain ⟨ad, rfl, hb, hcell⟩ := h hk
  exact ⟨ad, rfl, hb, fun j u hu => hcell j u (by
    rw [List.getElem?_take] at hu
    split at hu
    · exact hu
    · cases hu)⟩
theorem Rd.of_blk {g o : Nat} {t : TypeId} {cs r : List Value} (h : Blk w g t cs) (hp : cs.drop o = xs ++ r) (hok : ok g) : Rd w ok (some ⟨g, o, none⟩) xs := fun _ =>
  ⟨_, rfl, hok, blk_src h o xs r hp⟩
theorem Rd.of_own {base : Nat} {e : TypeId} {c n : Nat} (h : w.ownsRow base e 1 (.slice A n c) n xs) : Rd w (base ≤ ·) A xs := fun hn => by
  have hl : xs.length = n := by simpa using h.1
  rcases h.2 with ⟨_, h0⟩ | ⟨g, cap, cur, hv, hg, _⟩
  · omega
  have hA : A = some ⟨g, 0, none⟩ := by injection hv
  subst hA
  exact ⟨_, rfl, hg, h.cells (g := g) rfl⟩
end

/-- A row that may be written: what is below B stays. -/
theorem below_of_grown {B : Nat} {w w' : World} {g : Nat} (h : w.grownBy w' (some g)) (hB : B ≤ w.heap.size) (hg : B ≤ g) : Below B w w' :=
  (Below.refl _ _).grown h hB (fun k hk => by injection hk with hk; omega)
theorem grown_of_below {w w' : World} {row : Option Nat} (h : Below w.heap.size w w') : w.grownBy w' row :=
  ⟨h.os, h.tape, h.output, h.size, fun k hk _ => h.block k hk⟩
end Go.Proofs.YtamdhaoglapnnaaGreatDoor
end

section
/- A region that draws its order: quiet operations first, then a tail in one order: one walk serves every order. The kit's two theorems on quiet regions and on still heads with a tail, joined. -/
namespace Go.Proofs.YtamdhaoglapnnaaGreatDoor
section
variable {P : Program} {ops : Array Oper} {md : Region.Mode} {C : World → Prop}

def wpAnyLQ (P : Program) (md : Region.Mode) (ops : Array Oper) (C : World → Prop) (n : Nat) (L : Array Bool → Act → Prop) : Nat → Array Bool → Act → Prop
  | 0, listed, a => L listed a
  | f + 1, listed, a =>
    Region.ready md ops listed ≠ [] ∧ ∀ i ∈ Region.ready md ops listed, i < n ∧ qOp P ops C i (wpAnyLQ P md ops C n L f (listed.setIfInBounds i true)) a

theorem wpAny_of_headQ {n g : Nat} {L : Array Bool → Act → Prop} {Q' : Exit → Act → World → Prop} (hL : ∀ listed a w, C w → L listed a → wpAny P md ops Q' g listed a w) :
    ∀ (f : Nat) (listed : Array Bool) (a : Act) (w : World), C w → wpAnyLQ P md ops C n L f listed a → wpAny P md ops Q' (f + g) listed a w
  | 0, listed, a, w, hw, h => by rw [Nat.zero_add]; exact hL _ _ _ hw h
  | f + 1, listed, a, w, hw, h => by
    rw [show f + 1 + g = (f + g) + 1 by omega]
    exact ⟨fun h0 => absurd h0 h.1, fun i hi => wpOp_of_qOp hw (fun a' w' hw' h' => wpAny_of_headQ hL f _ a' w' hw' h') (h.2 i hi).2⟩

theorem wpAnyLQ_first {n i : Nat} {oi : Oper} {v : Value} {L : Array Bool → Act → Prop} (hi : ops[i]? = some oi) (hsel : ∀ (j : Nat) (o : Oper) cs b, ops[j]? = some o → o.op ≠ .select cs b)
    (hs : Region.sinkB md ops n = true) (hc : Region.chainB md ops n = true) (hn : n < ops.size) (hin : i < n)
    (hdone : ∀ listed a, L listed a → ∀ j ∈ Region.ready md ops listed, n ≤ j) :
    ∀ (f : Nat) (listed : Array Bool) (a : Act), HeadInv md ops n listed →
      (∀ j oj, ops[j]? = some oj → j ≠ i → listed.getD j true = false → (∀ e ∈ oj.after, Region.binds md e = true → e.on ≠ i) → oi.apart ops oj = true) →
      i ∈ Region.ready md ops listed → YieldsIn P ops C oi v a →
      wpAnyLQ P md ops C n L f (listed.setIfInBounds i true) (a.put oi.dst v) → wpAnyLQ P md ops C n L (f + 1) listed a := by
  intro f
  induction f with
  | zero =>
    intro listed a inv _ hr hy H
    have hun := (mem_ready.1 hr).1
    refine ⟨fun h => (by rw [h] at hr; cases hr), fun j hj => ?_⟩
    have hjn : j < n := by
      rcases Nat.lt_or_ge j n with h | h
      · exact h
      · exact absurd hj (tail_waits hs hc hn inv _ i rfl hin hun j h)
    refine ⟨hjn, ?_⟩
    by_cases hji : j = i
    · subst hji; exact hy.qOp hi H
    · have := hdone _ _ H j (ready_mono hj hji)
      omega
  | succ f ih =>
    intro listed a inv hfree hr hy H
    have hun := (mem_ready.1 hr).1
    refine ⟨fun h => (by rw [h] at hr; cases hr), fun j hj => ?_⟩
    have hjn : j < n := by
      rcases Nat.lt_or_ge j n with h | h
      · exact h
      · exact absurd hj (tail_waits hs hc hn inv _ i rfl hin hun j h)
    refine ⟨hjn, ?_⟩
    by_cases hji : j = i
    · subst hji; exact hy.qOp hi H
    · have h1 := (H.2 j (ready_mono hj hji)).2
      obtain ⟨hjun, oj, hoj, hall⟩ := mem_ready.1 hj
      have hnot : ∀ e ∈ oj.after, Region.binds md e = true → e.on ≠ i := fun e he hb heq => by
        have h1 := hall e he hb
        rw [heq, getD_both hun] at h1
        cases h1
      have h2 := qOp_put hoj (hfree j oj hoj hji hjun hnot) (fun cs b => hsel i oi cs b hi) (fun cs b => hsel j oj cs b hoj) hy h1
      have hfree' : ∀ k ok, ops[k]? = some ok → k ≠ i → (listed.setIfInBounds j true).getD k true = false →
          (∀ e ∈ ok.after, Region.binds md e = true → e.on ≠ i) → oi.apart ops ok = true := fun k ok hk hki hun hno => by
        refine hfree k ok hk hki ?_ hno
        by_cases hjk : j = k
        · subst hjk; exact hjun
        · rw [getD_set_ne true hjk] at hun; exact hun
      refine qOp_mono (fun a' h3 => ih (listed.setIfInBounds j true) a' (inv.set hj hjn) hfree' (ready_mono hr (Ne.symm hji)) h3.1 ?_) h2
      rw [Array.setIfInBounds_comm _ _ hji]
      exact h3.2

theorem wpAnyLQ_lex {n g : Nat} {Lq : Act → Prop} (hsel : Region.noSelect ops = true) (hs : Region.sinkB md ops n = true) (hc : Region.chainB md ops n = true) (hn : n < ops.size) :
    ∀ (l : List Oper) (k : Nat) (listed : Array Bool) (a : Act), (∀ j, j < l.length → l[j]? = ops[k + j]?) → k + l.length = n → HeadInv md ops n listed →
    Region.lexHead md ops g l.length k listed = true → wpQuiet P ops C Lq l a →
    wpAnyLQ P md ops C n (fun listed' a' => Region.seqB md ops g n listed' = true ∧ Lq a') l.length listed a
  | [], k, listed, a, _, hk, _, hB, h => by
    have : k = n := by simpa using hk
    subst this
    exact ⟨by simpa [Region.lexHead] using hB, h⟩
  | o :: l, k, listed, a, hl, hk, inv, hB, h => by
    have h0 : ops[k]? = some o := by simpa using (hl 0 (by simp)).symm
    simp only [List.length_cons, Region.lexHead, Bool.and_eq_true] at hB
    obtain ⟨⟨hr, hf⟩, hB'⟩ := hB
    have hkn : k < n := by simp only [List.length_cons] at hk; omega
    have hr' : k ∈ Region.ready md ops listed := by simpa using hr
    have hst : qOp P ops C k (wpQuiet P ops C Lq l) a := by unfold qOp; simp only [h0]; exact h
    obtain ⟨v, hy, hK⟩ := yieldsIn_of_qOp h0 hst
    exact wpAnyLQ_first h0 (Region.noSelect_spec hsel) hs hc hn hkn (fun listed' a' hL => seqB_ready hL.1) l.length listed a inv (Region.free_spec h0 hf) hr' hy
      (wpAnyLQ_lex hsel hs hc hn l (k + 1) _ _ (fun j hj => by have := hl (j + 1) (by simp; omega); simpa [Nat.add_assoc, Nat.add_comm 1 j] using this) (by simp only [List.length_cons] at hk; omega) (inv.set hr' hkn) hB' hK)

/-- The law, over any class of worlds. -/
theorem quiet_tail_in {id : Nat} {Q : Exit → Act → World → Prop} {a : Act} {w : World} {l : List Oper} (n : Nat) (hm : P.follows .mixedOrders = true) (hB : Region.lexTailB .any l.toArray n = true) (hC : C w.drew)
    (h : wpQuiet P l.toArray C (fun a' => ∀ w', C w' → wpList P l.toArray Q (l.drop n) a' w') (l.take n) a) : (Code.region id l.toArray true).wp P Q a w := by
  simp only [Region.lexTailB, Bool.and_eq_true, decide_eq_true_eq] at hB
  obtain ⟨⟨⟨⟨hsel, hn⟩, hs⟩, hc⟩, hlex⟩ := hB
  have hn' : n < l.length := by simpa using hn
  have htl : (l.take n).length = n := by simp; omega
  have hdl : (l.drop n).length = l.toArray.size - n := by simp
  have inv0 : HeadInv .any l.toArray n (Array.replicate l.toArray.size false) :=
    ⟨by simp, fun j oj _ hl => (by rw [getD_replicate_false] at hl; cases hl), fun t _ ht => getD_in (by simpa using ht) (getD_replicate_false _ _)⟩
  have H := wpAnyLQ_lex (md := .any) (g := l.toArray.size - n) hsel hs hc hn (l.take n) 0 _ a (fun j hj => by
    have hj' : j < n := by rw [htl] at hj; exact hj
    simp [hj']) (by simpa using htl) inv0 (by rw [htl]; exact hlex) h
  refine wp_region_any hm ?_
  have := wpAny_of_headQ (Q' := Q) (g := l.toArray.size - n) (fun listed a' w' hw' hL => by
    have := wpAny_of_seq (md := .any) (Q' := Q) (l.drop n) n listed a' w' (fun j => by simp [List.getElem?_drop]) (by rw [hdl]; exact hL.1) (hL.2 w' hw')
    rwa [hdl] at this) _ _ _ _ hC H
  rw [htl, show n + (l.toArray.size - n) = l.toArray.size by omega] at this
  exact this

/-- The law at the class 'w after some draws'. -/
theorem quiet_tail {id : Nat} {Q : Exit → Act → World → Prop} {a : Act} {w : World} {l : List Oper} (n : Nat) (hm : P.follows .mixedOrders = true) (hB : Region.lexTailB .any l.toArray n = true)
    (h : wpQuiet P l.toArray (fun w' => ∃ n, w' = w.drewN n) (fun a' => ∀ w', (∃ n, w' = w.drewN n) → wpList P l.toArray Q (l.drop n) a' w') (l.take n) a) : (Code.region id l.toArray true).wp P Q a w :=
  quiet_tail_in (C := fun w' => ∃ n, w' = w.drewN n) n hm hB ⟨1, rfl⟩ h
end
end Go.Proofs.YtamdhaoglapnnaaGreatDoor
end

section
/- A quiet operation whose run is known; cuts of an array. -/
namespace Go.Proofs.YtamdhaoglapnnaaGreatDoor
open Go.RowKit
section
variable {P : Program}
/-- An operation of a quiet walk whose run is known. -/
theorem wpQuiet_run {ops : Array Oper} {rest : List Oper} {o : Oper} {a : Act} {C : World → Prop} {Q : Act → Prop} (op : Op) (_ho : o.op = op) (hgd : o.guard = none) (v : Value)
    (hrun : ∀ w, C w → (execOp a.eval o).run P w = .ok (.value v) w) (h : wpQuiet P ops C Q rest (a.put o.dst v)) : wpQuiet P ops C Q (o :: rest) a := by
  refine wpQuiet_step fun K hK => ?_
  have hw : Region.wanted o (yielded ops a.tmps) = true := by simp [Region.wanted, hgd]
  rw [if_pos hw]
  exact ⟨v, fun w hC => by unfold Oper.quietAt; rw [hrun w hC]; exact ⟨rfl, rfl⟩, hK _ h⟩

/-- 'x[l:]' of an array in a block. -/
theorem run_sliceAt_arr_lo (w : World) (t elem : TypeId) (n : Nat) (hu : P.underlying t = some (.array n elem)) (hs : (P.info? elem).map (·.size) = some 1) (b off l : Nat) (hl : l < n) :
    (Instr.sliceAt t (.pointer (some ⟨b, off, none⟩)) (some (.int .i64 (l : Int))) none none).run P w = .ok (.slice (some ⟨b, off + l, none⟩) (n - l) (n - l)) w := by
  cases hq : P.info? elem with
  | none => simp [hq] at hs
  | some i =>
    have hi : i.size = 1 := by simpa [hq] using hs
    have h1 : ¬ n = l := by omega
    have h2 : (l : Int) ≤ n := by omega
    simp [Instr.sliceAt, run_underlying hu, Instr.sliceBounds, run_sliceBound, sizeOf, typeInfo, hq, hi, h1, addr_add, Instr.sureAddr, Nat.le_of_lt hl]
theorem wpQuiet_slice_lo {ops : Array Oper} {rest : List Oper} {o : Oper} {a : Act} {C : World → Prop} {Q : Act → Prop} (t : TypeId) (x lo : Operand) (ho : o.op = .slice t x (some lo) none none) (hgd : o.guard = none)
    (elem : TypeId) (n : Nat) (hu : P.underlying t = some (.array n elem)) (hs : (P.info? elem).map (·.size) = some 1) (b off l : Nat) (i : Int) (hx : a.eval x = .pointer (some ⟨b, off, none⟩)) (hlo : a.eval lo = .int .i64 i) (hi : i = (l : Int)) (hl : l < n)
    (h : wpQuiet P ops C Q rest (a.put o.dst (.slice (some ⟨b, off + l, none⟩) (n - l) (n - l)))) : wpQuiet P ops C Q (o :: rest) a := by
  refine wpQuiet_run _ ho hgd _ (fun w _ => ?_) h
  subst hi
  simp only [execOp, ho, hx, hlo, Option.map_some, Option.map_none, Sem.run_bind, run_sliceAt_arr_lo w t elem n hu hs b off l hl, Result.andThen_ok, Sem.run_pure]
/-- Where 'x[k:]' of a slice begins: at its capacity's end the address stays. (A plain def: the walk does not part on it.) -/
def cutA (A : Option Addr) (cap k s : Nat) : Option Addr := if cap = k then A else A.map (·.add (k * s))
theorem Rd.cutA {w : World} {ok : Nat → Prop} {A : Option Addr} {xs : List Value} (h : Rd w ok A xs) {k cap : Nat} (hc : xs.length ≤ cap) : Rd w ok (cutA A cap k 1) (xs.drop k) := by
  have := h.cut (k := k) hc
  unfold Proofs.YtamdhaoglapnnaaGreatDoor.cutA
  simpa using this
theorem run_sliceAt_from (w : World) (t elem : TypeId) (s : Nat) (hu : P.underlying t = some (.slice elem)) (hs : (P.info? elem).map (·.size) = some s) (A : Option Addr) (n cap k : Nat) (hk : k ≤ n) :
    (Instr.sliceAt t (.slice A n cap) (some (.int .i64 (k : Int))) none none).run P w = .ok (.slice (cutA A cap k s) (n - k) (cap - k)) w := by
  cases hq : P.info? elem with
  | none => simp [hq] at hs
  | some i =>
    have hi : i.size = s := by simpa [hq] using hs
    simp [Instr.sliceAt, Instr.slice, run_underlying hu, Instr.sliceBounds, run_sliceBound, sizeOf, typeInfo, hq, hi, hk, cutA]
theorem run_sliceAt_mid (w : World) (t elem : TypeId) (s : Nat) (hu : P.underlying t = some (.slice elem)) (hs : (P.info? elem).map (·.size) = some s) (A : Option Addr) (n cap k j : Nat) (hk : k ≤ j) (hj : j ≤ cap) :
    (Instr.sliceAt t (.slice A n cap) (some (.int .i64 (k : Int))) (some (.int .i64 (j : Int))) none).run P w = .ok (.slice (cutA A cap k s) (j - k) (cap - k)) w := by
  cases hq : P.info? elem with
  | none => simp [hq] at hs
  | some i =>
    have hi : i.size = s := by simpa [hq] using hs
    simp [Instr.sliceAt, Instr.slice, run_underlying hu, Instr.sliceBounds, run_sliceBound, sizeOf, typeInfo, hq, hi, hk, hj, cutA]
/-- 'x[k:]' of a slice. -/
theorem wpList_slice_from {ops : Array Oper} {rest : List Oper} {o : Oper} {a : Act} {w : World} {Q : Exit → Act → World → Prop} (hgd : o.guard = none) (t : TypeId) (x lo : Operand) (ho : o.op = .slice t x (some lo) none none)
    (elem : TypeId) (s : Nat) (hu : P.underlying t = some (.slice elem)) (hs : (P.info? elem).map (·.size) = some s) (A : Option Addr) (n cap k : Nat) (hx : a.eval x = .slice A n cap) (hlo : a.eval lo = .int .i64 (k : Int)) (hk : k ≤ n)
    (h : wpList P ops Q rest (a.put o.dst (.slice (cutA A cap k s) (n - k) (cap - k))) w) : wpList P ops Q (o :: rest) a w := by
  refine wpList_run _ ho hgd _ ?_ h
  simp only [execOp, ho, hx, hlo, Option.map_some, Option.map_none, Sem.run_bind, run_sliceAt_from w t elem s hu hs A n cap k hk, Result.andThen_ok, Sem.run_pure]
/-- 'x[k:j]' of a slice. -/
theorem wpList_slice_mid {ops : Array Oper} {rest : List Oper} {o : Oper} {a : Act} {w : World} {Q : Exit → Act → World → Prop} (hgd : o.guard = none) (t : TypeId) (x lo hi : Operand) (ho : o.op = .slice t x (some lo) (some hi) none)
    (elem : TypeId) (s : Nat) (hu : P.underlying t = some (.slice elem)) (hs : (P.info? elem).map (·.size) = some s) (A : Option Addr) (n cap k j : Nat) (hx : a.eval x = .slice A n cap) (hlo : a.eval lo = .int .i64 (k : Int)) (hhi : a.eval hi = .int .i64 (j : Int)) (hk : k ≤ j) (hj : j ≤ cap)
    (h : wpList P ops Q rest (a.put o.dst (.slice (cutA A cap k s) (j - k) (cap - k))) w) : wpList P ops Q (o :: rest) a w := by
  refine wpList_run _ ho hgd _ ?_ h
  simp only [execOp, ho, hx, hlo, hhi, Option.map_some, Option.map_none, Sem.run_bind, run_sliceAt_mid w t elem s hu hs A n cap k j hk hj, Result.andThen_ok, Sem.run_pure]
/-- A part of a block is read, in a quiet walk. -/
theorem wpQuiet_load_part {ops : Array Oper} {rest : List Oper} {op : Oper} {a : Act} {C : World → Prop} {Q : Act → Prop} (ty : TypeId) (x : Operand) (ho : op.op = .load ty x) (hgd : op.guard = none)
    (g o : Nat) (hx : a.eval x = .pointer (some ⟨g, o, none⟩)) (t : TypeId) (cs part r : List Value) (hg : ∀ w, C w → Blk w g t cs) (hp : cs.drop o = part ++ r) (d : TypeDesc)
    (hu : P.underlying ty = some d) (hd : d.isRow = true) (hi : (P.info? ty).map (·.size) = some part.length)
    (h : wpQuiet P ops C Q rest (a.put op.dst (.agg part.toArray))) : wpQuiet P ops C Q (op :: rest) a := by
  refine wpQuiet_run _ ho hgd _ (fun w hw => ?_) h
  unfold execOp
  simp only [ho, hx, Instr.loadAt, Instr.sureAddr, Sem.run_bind, Sem.run_pure, Result.andThen_ok,
    run_loadVar_mid w g o ty part d (fun j v hv => by have := blk_src (hg w hw) o part r hp j v hv; rwa [addr_add] at this) hu hd hi]
end
end Go.Proofs.YtamdhaoglapnnaaGreatDoor
end

section
/- append onto a row of the call's own, the source nil, empty or not. After the kit's page of words. -/
namespace Go.Proofs.YtamdhaoglapnnaaGreatDoor
open Go.RowKit
section
variable {P : Program} (w : World)

theorem run_append_nil (base : Nat) (t ty e : TypeId) (i : TypeInfo) (size : Nat) (ht : P.underlying t = some (.slice e)) (hi : P.info? e = some i)
    (v : Value) (n : Nat) (xs : List Value) (hown : w.ownsRow base e size v n xs) (c : Nat) : (Builtin.append_ #[t, t] ty #[v, .slice none 0 c]).run P w = .ok v w := by
  rcases hown.2 with ⟨rfl, rfl⟩ | ⟨g, cap, cur, rfl, _, _, hnc, _⟩
  · simp [Builtin.append_, run_underlying ht, sizeOf, typeInfo, hi, Builtin.lenOf, Builtin.firstCells]
  · simp [Builtin.append_, run_underlying ht, sizeOf, typeInfo, hi, Builtin.lenOf, Builtin.firstCells, hnc, storeCells]

/-- What is known of a type's row. -/
structure InfoOf (P : Program) (e : TypeId) (z : Value) (size bytes : Nat) : Prop where
  info : (P.info? e).map (fun i => (i.zero, i.size, i.bytes)) = some (some z, size, bytes)
  cells : z.cells.size = size
  pos : 0 < size

theorem run_append_rd (base : Nat) (t ty e : TypeId) (z : Value) (bytes : Nat) (size : Nat) (ht : P.underlying t = some (.slice e)) (hI : InfoOf P e z size bytes)
    (v : Value) (n : Nat) (xs : List Value) (hown : w.ownsRow base e size v n xs)
    (ok : Nat → Prop) (A : Option Addr) (m c : Nat) (news : List Value) (hm : news.length = m * size) (hr : Rd w ok A news) (h1 : ∀ u ∈ news, u.oneCell' = true)
    (h63 : n + m ≤ maxLen) (hbytes : (n + m) * bytes ≤ 140737488355328) (hbase : base ≤ w.heap.size) :
    ∃ v' w', (Builtin.append_ #[t, t] ty #[v, .slice A m c]).run P w = .ok v' w' ∧ w'.ownsRow base e size v' (n + m) (xs ++ news) ∧ w.grownBy w' v.ownBlock ∧
      (v'.ownBlock = v.ownBlock ∨ v'.ownBlock = some w.heap.size) := by
  cases hq : P.info? e with
  | none => have := hI.info; simp [hq] at this
  | some i =>
    have hii := hI.info
    simp only [hq, Option.map_some, Option.some.injEq, Prod.mk.injEq] at hii
    obtain ⟨hz, hsize, hby⟩ := hii
    rcases A with _ | ad
    · have hm0 : m = 0 := by
        rcases Nat.eq_zero_or_pos m with h0 | h0
        · exact h0
        · obtain ⟨ad, h, _⟩ := hr (by rw [hm]; exact Nat.mul_pos h0 hI.pos)
          cases h
      subst hm0
      have hn : news = [] := List.eq_nil_of_length_eq_zero (by simpa using hm)
      subst hn
      exact ⟨v, w, run_append_nil w base t ty e i size ht hq v n xs hown c, by simpa using hown, World.grownBy.refl w _, .inl rfl⟩
    · have hcells : ∀ j u, news[j]? = some u → w.cell? (ad.add j) = some u := by
        intro j u hu
        obtain ⟨ad', h, _, hc⟩ := hr (by have := (List.getElem?_eq_some_iff.1 hu).1; omega)
        injection h with h
        subst h
        exact hc j u hu
      obtain ⟨v', w', hrun, h2, h3, _, h5⟩ := run_append_own_at (P := P) w base t ty e i z size bytes ht hq hz hsize hby hI.cells hI.pos v n xs hown ad m c news hm hcells h1 h63 hbytes hbase
      exact ⟨v', w', hrun, h2, h3, h5⟩

theorem wp_append_rd {o : Oper} {a : Act} {K : Act → World → Prop} {Q : Exit → Act → World → Prop} (s x : Operand) (t : TypeId)
    (ho : o.op = .call { callee := .builtin .append, args := #[s, x], argTypes := #[t, t] })
    (base : Nat) (e : TypeId) (z : Value) (size bytes : Nat) (ht : P.underlying t = some (.slice e)) (hI : InfoOf P e z size bytes)
    (v : Value) (n : Nat) (xs : List Value) (hs : a.eval s = v) (hown : w.ownsRow base e size v n xs)
    (ok : Nat → Prop) (A : Option Addr) (m c : Nat) (news : List Value) (hx : a.eval x = .slice A m c) (hm : news.length = m * size) (hr : Rd w ok A news) (h1 : ∀ u ∈ news, u.oneCell' = true)
    (h63 : n + m ≤ maxLen) (hbytes : (n + m) * bytes ≤ 140737488355328) (hbase : base ≤ w.heap.size)
    (h : ∀ v' w', w'.ownsRow base e size v' (n + m) (xs ++ news) → w.grownBy w' v.ownBlock → (v'.ownBlock = v.ownBlock ∨ v'.ownBlock = some w.heap.size) → K (a.put o.dst v') w') : o.wp P a w K Q := by
  obtain ⟨v', w', hrun, h2, h3, h4⟩ := run_append_rd (P := P) w base t o.type e z bytes size ht hI v n xs hown ok A m c news hm hr h1 h63 hbytes hbase
  unfold Oper.wp execOp
  simp only [ho, resolve, invoke, builtin, Sem.run_bind, Sem.run_pure, Result.andThen_ok, List.map_toArray, List.map_cons, List.map_nil, hs, hx, hrun]
  exact h v' w' h2 h3 h4

/-- 'out = append(out, xs...)'. -/
theorem wpList_append_rd {ops : Array Oper} {rest : List Oper} {o : Oper} {a : Act} {Q : Exit → Act → World → Prop} (hgd : o.guard = none) (s x : Operand) (t : TypeId)
    (ho : o.op = .call { callee := .builtin .append, args := #[s, x], argTypes := #[t, t] })
    (base : Nat) (e : TypeId) (z : Value) (size bytes : Nat) (ht : P.underlying t = some (.slice e)) (hI : InfoOf P e z size bytes)
    (v : Value) (n : Nat) (xs : List Value) (hs : a.eval s = v) (hown : w.ownsRow base e size v n xs)
    (ok : Nat → Prop) (A : Option Addr) (m c : Nat) (news : List Value) (hx : a.eval x = .slice A m c) (hm : news.length = m * size) (hr : Rd w ok A news) (h1 : ∀ u ∈ news, u.oneCell' = true)
    (h63 : n + m ≤ maxLen) (hbytes : (n + m) * bytes ≤ 140737488355328) (hbase : base ≤ w.heap.size)
    (h : ∀ v' w', w'.ownsRow base e size v' (n + m) (xs ++ news) → w.grownBy w' v.ownBlock → (v'.ownBlock = v.ownBlock ∨ v'.ownBlock = some w.heap.size) → wpList P ops Q rest (a.put o.dst v') w') : wpList P ops Q (o :: rest) a w :=
  wpList_plain hgd fun _ hK => wp_append_rd w s x t ho base e z size bytes ht hI v n xs hs hown ok A m c news hx hm hr h1 h63 hbytes hbase fun v' w' h2 h3 h4 => hK _ _ (h v' w' h2 h3 h4)
end

/-- The value of a row of the call's own with one element or more. -/
theorem own_form {w : World} {base : Nat} {e : TypeId} {size : Nat} {v : Value} {n : Nat} {xs : List Value} (h : w.ownsRow base e size v n xs) :
    ∃ A cap, v = .slice A n cap ∧ n ≤ cap ∧ cap ≤ maxLen := by
  rcases h.2 with ⟨rfl, rfl⟩ | ⟨g, cap, cur, rfl, _, _, h1, h2, _⟩
  · exact ⟨none, 0, rfl, Nat.le_refl _, Nat.zero_le _⟩
  · exact ⟨_, cap, rfl, h1, h2⟩
/-- What lies below the row's base stays. -/
theorem own_below {w w' : World} {base : Nat} {e : TypeId} {size : Nat} {v : Value} {n : Nat} {xs : List Value} (h : w.ownsRow base e size v n xs) (hg : w.grownBy w' v.ownBlock) (hb : base ≤ w.heap.size) : Below base w w' :=
  (Below.refl _ _).grown hg hb (fun k hk => (h.lt k hk).1)
theorem own_rd {w : World} {base : Nat} {e : TypeId} {n : Nat} {xs : List Value} {A : Option Addr} {cap : Nat} (h : w.ownsRow base e 1 (.slice A n cap) n xs) : Rd w (base ≤ ·) A xs := Rd.of_own h
end Go.Proofs.YtamdhaoglapnnaaGreatDoor
end

section
/- Words of 32 bits and bytes as Go values: each operation of the model on them is the one on Lean's UInt32 and UInt8. -/
namespace Go.Proofs.YtamdhaoglapnnaaGreatDoor
open Go.RowKit

/-- A word's number. (A plain def: the walk does not look behind it.) -/
def wv (x : UInt32) : Int := (x.toNat : Int)
/-- A byte's number. -/
def bv (x : UInt8) : Int := (x.toNat : Int)
/-- A word as a value. -/
abbrev W (x : UInt32) : Value := .int .u32 (wv x)
/-- A byte as a value. -/
abbrev B (x : UInt8) : Value := .int .u8 (bv x)

theorem bv_nonneg (x : UInt8) : 0 ≤ bv x := Int.natCast_nonneg _
theorem bv_lt (x : UInt8) : bv x < 256 := by have := x.toNat_lt; unfold bv; omega
theorem wv_nonneg (x : UInt32) : 0 ≤ wv x := Int.natCast_nonneg _
theorem wv_lt (x : UInt32) : wv x < 4294967296 := by have := x.toNat_lt; unfold wv; omega
theorem bv_inj {x y : UInt8} (h : bv x = bv y) : x = y := UInt8.toNat_inj.1 (by unfold bv at h; omega)
theorem wv_inj {x y : UInt32} (h : wv x = wv y) : x = y := UInt32.toNat_inj.1 (by unfold wv at h; omega)

theorem u32_wrap_eq (n : Nat) : IntKind.u32.wrap (n : Int) = ((n % 4294967296 : Nat) : Int) := by
  simp [IntKind.wrap, IntKind.bits, IntKind.signed]
theorem u8_wrap_eq (n : Nat) : IntKind.u8.wrap (n : Int) = ((n % 256 : Nat) : Int) := by
  simp [IntKind.wrap, IntKind.bits, IntKind.signed]
theorem ofInt32 (x : UInt32) : (BitVec.ofInt 32 (wv x)) = x.toBitVec := by
  apply BitVec.eq_of_toNat_eq
  have := x.toNat_lt
  simp [wv]
theorem ofInt8 (x : UInt8) : (BitVec.ofInt 8 (bv x)) = x.toBitVec := by
  apply BitVec.eq_of_toNat_eq
  have := x.toNat_lt
  simp [bv]

theorem w_xor (x y : UInt32) : bits .xor .u32 (wv x) (wv y) = wv (x ^^^ y) := by
  show IntKind.u32.wrap ((BitVec.ofInt 32 (wv x) ^^^ BitVec.ofInt 32 (wv y)).toNat : Int) = _
  rw [ofInt32, ofInt32, u32_wrap_eq, Nat.mod_eq_of_lt (BitVec.isLt _)]; rfl
theorem w_and (x y : UInt32) : bits .and .u32 (wv x) (wv y) = wv (x &&& y) := by
  show IntKind.u32.wrap ((BitVec.ofInt 32 (wv x) &&& BitVec.ofInt 32 (wv y)).toNat : Int) = _
  rw [ofInt32, ofInt32, u32_wrap_eq, Nat.mod_eq_of_lt (BitVec.isLt _)]; rfl
theorem w_or (x y : UInt32) : bits .or .u32 (wv x) (wv y) = wv (x ||| y) := by
  show IntKind.u32.wrap ((BitVec.ofInt 32 (wv x) ||| BitVec.ofInt 32 (wv y)).toNat : Int) = _
  rw [ofInt32, ofInt32, u32_wrap_eq, Nat.mod_eq_of_lt (BitVec.isLt _)]; rfl
theorem w_not (y : UInt32) : bits .xor .u32 4294967295 (wv y) = wv (~~~ y) := by
  have h : (4294967295 : Int) = wv 4294967295 := by decide
  rw [h, w_xor]
  congr 1
theorem w_not_max (y : UInt32) : bits .xor .u32 IntKind.u32.max (wv y) = wv (~~~ y) := w_not y
theorem w_add (x y : UInt32) : IntKind.u32.wrap (wv x + wv y) = wv (x + y) := by
  unfold wv
  rw [← Int.natCast_add, u32_wrap_eq, UInt32.toNat_add]
theorem w_add_mod (x y : UInt32) : (wv x + wv y) % 4294967296 = wv (x + y) := by
  unfold wv
  rw [← Int.natCast_add, UInt32.toNat_add]; rfl
theorem w_sum5 (d x y k z : UInt32) : (wv d + (wv x + wv y + wv k + wv z)) % 4294967296 = wv (d + (x + y + k + z)) := by simp only [← w_add_mod]; omega
theorem w_sum5' (x y k z u : UInt32) : (wv x + wv y + wv k + wv z + wv u) % 4294967296 = wv (x + y + k + z + u) := by simp only [← w_add_mod]; omega
theorem b_or (x y : UInt8) : bits .or .u8 (bv x) (bv y) = bv (x ||| y) := by
  show IntKind.u8.wrap ((BitVec.ofInt 8 (bv x) ||| BitVec.ofInt 8 (bv y)).toNat : Int) = _
  rw [ofInt8, ofInt8, u8_wrap_eq, Nat.mod_eq_of_lt (BitVec.isLt _)]; rfl
theorem b_and (x y : UInt8) : bits .and .u8 (bv x) (bv y) = bv (x &&& y) := by
  show IntKind.u8.wrap ((BitVec.ofInt 8 (bv x) &&& BitVec.ofInt 8 (bv y)).toNat : Int) = _
  rw [ofInt8, ofInt8, u8_wrap_eq, Nat.mod_eq_of_lt (BitVec.isLt _)]; rfl

/-- A byte as a word. -/
def b2w (x : UInt8) : UInt32 := UInt32.ofNat x.toNat
theorem b2w_toNat (x : UInt8) : (b2w x).toNat = x.toNat := by
  have := x.toNat_lt
  unfold b2w
  simp
/-- A word's lowest byte. -/
def w2b (x : UInt32) : UInt8 := UInt8.ofNat x.toNat
/-- The move to the right. -/
def shr (x : UInt32) (n : Nat) : UInt32 := UInt32.ofNat (x.toNat / 2 ^ n)
/-- The move to the left. -/
def shl (x : UInt32) (n : Nat) : UInt32 := UInt32.ofNat (x.toNat * 2 ^ n)
/-- The turn to the right. -/
def rotr (x : UInt32) (n : Nat) : UInt32 := shr x n ||| shl x (32 - n)
theorem shr_toNat (x : UInt32) (n : Nat) : (shr x n).toNat = x.toNat / 2 ^ n := by
  have := x.toNat_lt
  have h : x.toNat / 2 ^ n ≤ x.toNat := Nat.div_le_self _ _
  unfold shr
  simp; omega
theorem shl_toNat (x : UInt32) (n : Nat) : (shl x n).toNat = x.toNat * 2 ^ n % 4294967296 := by
  unfold shl; simp
theorem w_shr (x : UInt32) (n : Nat) : wv x / (2 : Int) ^ n = wv (shr x n) := by
  unfold wv; rw [shr_toNat]; simp
theorem w_shl_mod (x : UInt32) (n : Nat) : (wv x * (2 : Int) ^ n) % 4294967296 = wv (shl x n) := by
  unfold wv; rw [shl_toNat]; simp
theorem b2w_mod (x : UInt8) : bv x % 4294967296 = wv (b2w x) := by
  have := x.toNat_lt
  unfold bv wv
  rw [b2w_toNat]; omega
theorem w2b_mod (x : UInt32) : wv x % 256 = bv (w2b x) := by
  unfold bv wv w2b
  simp
theorem shl_8 (x : UInt32) : wv x * 256 % 4294967296 = wv (shl x 8) := w_shl_mod x 8
theorem shl_16 (x : UInt32) : wv x * 65536 % 4294967296 = wv (shl x 16) := w_shl_mod x 16
theorem shl_24 (x : UInt32) : wv x * 16777216 % 4294967296 = wv (shl x 24) := w_shl_mod x 24
theorem shr_3 (x : UInt32) : wv x / 8 = wv (shr x 3) := w_shr x 3
theorem shr_8 (x : UInt32) : wv x / 256 = wv (shr x 8) := w_shr x 8
theorem shr_10 (x : UInt32) : wv x / 1024 = wv (shr x 10) := w_shr x 10
theorem shr_16 (x : UInt32) : wv x / 65536 = wv (shr x 16) := w_shr x 16
theorem shr_24 (x : UInt32) : wv x / 16777216 = wv (shr x 24) := w_shr x 24

end Go.Proofs.YtamdhaoglapnnaaGreatDoor
end

section
/- A region that draws its order, walked once, in an order of one's own: operations that yield whatever the world first, then quiet ones, then a tail in one order. -/
namespace Go.Proofs.YtamdhaoglapnnaaGreatDoor
section
variable {P : Program} {ops : Array Oper} {md : Region.Mode} {C : World → Prop}

/-! The same for any order of one's own: operations that yield in every world first, then quiet ones, then a tail in one order. -/

def nthOp : List Oper → Nat → Oper
  | [], _ => default
  | o :: _, 0 => o
  | _ :: l, n + 1 => nthOp l n
theorem nthOp_zero (o : Oper) (l : List Oper) : nthOp (o :: l) 0 = o := rfl
theorem nthOp_succ (o : Oper) (l : List Oper) (n : Nat) : nthOp (o :: l) (n + 1) = nthOp l n := rfl
theorem nthOp_get : ∀ (l : List Oper) (i : Nat) (h : i < l.length), nthOp l i = l[i]
  | o :: l, 0, _ => rfl
  | o :: l, n + 1, h => by rw [nthOp_succ]; exact nthOp_get l n (by simpa using h)
def pickOps (l : List Oper) (is : List Nat) : List Oper := is.map (nthOp l)

def sinkL (md : Region.Mode) (ops : Array Oper) (t0 : Nat) : List Nat → Bool
  | [] => true
  | i :: s => (s ++ [t0]).any (fun j => Region.waitsFor md ops j i) && sinkL md ops t0 s
def chainL (md : Region.Mode) (ops : Array Oper) : Nat → List Nat → Bool
  | _, [] => true
  | t0, t :: s => Region.waitsFor md ops t t0 && chainL md ops t s
structure HeadL (md : Region.Mode) (ops : Array Oper) (tl : List Nat) (listed : Array Bool) : Prop where
  size : listed.size = ops.size
  closed : ∀ j oj, ops[j]? = some oj → listed.getD j false = true → ∀ e ∈ oj.after, Region.binds md e = true → listed.getD e.on false = true
  tail : ∀ t ∈ tl, listed.getD t true = false

theorem HeadL.set {tl : List Nat} {i : Nat} {listed : Array Bool} (inv : HeadL md ops tl listed) (hi : i ∈ Region.ready md ops listed) (hin : i ∉ tl) : HeadL md ops tl (listed.setIfInBounds i true) := by
  obtain ⟨_, oi, hoi, hall⟩ := mem_ready.1 hi
  refine ⟨by simp [inv.size], fun j oj hj hl e he hb => ?_, fun t ht => by rw [getD_set_ne true (show i ≠ t from fun e => hin (by rw [e]; exact ht))]; exact inv.tail t ht⟩
  by_cases hij : i = j
  · subst hij
    have : oj = oi := Option.some.inj (hj.symm.trans hoi)
    subst this
    exact getD_set_true (hall e he hb)
  · rw [getD_set_ne false hij] at hl
    exact getD_set_true (inv.closed j oj hj hl e he hb)

theorem waits_unready {j i : Nat} {listed : Array Bool} (h : Region.waitsFor md ops j i = true) (hun : listed.getD i true = false) : j ∉ Region.ready md ops listed := fun hr => by
  obtain ⟨oj, hoj, e, he, hb, hon⟩ := Region.waitsFor_spec h
  obtain ⟨_, oj', hoj', hall⟩ := mem_ready.1 hr
  have : oj = oj' := Option.some.inj (hoj.symm.trans hoj')
  subst this
  have h2 := hall e he hb
  rw [hon, getD_both hun] at h2
  cases h2
theorem chain_unready {listed : Array Bool} : ∀ (tl : List Nat) (t0 : Nat), chainL md ops t0 tl = true → listed.getD t0 true = false → (∀ t ∈ tl, listed.getD t true = false) → ∀ t ∈ tl, t ∉ Region.ready md ops listed
  | [], _, _, _, _, _, h => by cases h
  | t :: s, t0, hc, h0, ht, u, hu => by
    simp only [chainL, Bool.and_eq_true] at hc
    cases hu with
    | head => exact waits_unready hc.1 h0
    | tail _ hu => exact chain_unready s t hc.2 (ht t (by simp)) (fun x hx => ht x (by simp [hx])) u hu
theorem tail_waitsL {t0 : Nat} {tl : List Nat} {listed : Array Bool} (hc : chainL md ops t0 tl = true) (inv : HeadL md ops (t0 :: tl) listed) :
    ∀ hd : List Nat, sinkL md ops t0 hd = true → ∀ i ∈ hd, listed.getD i true = false → ∀ t ∈ t0 :: tl, t ∉ Region.ready md ops listed
  | [], _, _, h, _, _, _ => by cases h
  | i :: s, hs, k, hk, hun, t, ht => by
    simp only [sinkL, Bool.and_eq_true] at hs
    cases hk with
    | tail _ hk => exact tail_waitsL hc inv s hs.2 k hk hun t ht
    | head =>
      cases ht with
      | tail _ ht => exact chain_unready tl t0 hc (inv.tail t0 (by simp)) (fun x hx => inv.tail x (by simp [hx])) t ht
      | head =>
        intro hr
        obtain ⟨j, hj, hw⟩ := List.any_eq_true.1 hs.1
        obtain ⟨oj, hoj, e, he, hb, hon⟩ := Region.waitsFor_spec hw
        rcases List.mem_append.1 hj with hj | hj
        · cases hl : listed.getD j false with
          | true =>
            have h2 := inv.closed j oj hoj hl e he hb
            rw [hon, getD_both hun] at h2
            cases h2
          | false =>
            have hjs : j < listed.size := by rw [inv.size]; exact (Array.getElem?_eq_some_iff.1 hoj).1
            exact tail_waitsL hc inv s hs.2 j hj (getD_in hjs hl) t0 (by simp) hr
        · have : j = t0 := by simpa using hj
          subst this
          exact waits_unready hw hun hr

def wpAnyP (P : Program) (md : Region.Mode) (ops : Array Oper) (C : World → Prop) (tl : List Nat) (L : Array Bool → Act → Prop) : Nat → Array Bool → Act → Prop
  | 0, listed, a => L listed a
  | f + 1, listed, a =>
    Region.ready md ops listed ≠ [] ∧ ∀ i ∈ Region.ready md ops listed, i ∉ tl ∧ qOp P ops C i (wpAnyP P md ops C tl L f (listed.setIfInBounds i true)) a
theorem wpAny_of_headP {tl : List Nat} {g : Nat} {L : Array Bool → Act → Prop} {Q' : Exit → Act → World → Prop} (hL : ∀ listed a w, C w → L listed a → wpAny P md ops Q' g listed a w) :
    ∀ (f : Nat) (listed : Array Bool) (a : Act) (w : World), C w → wpAnyP P md ops C tl L f listed a → wpAny P md ops Q' (f + g) listed a w
  | 0, listed, a, w, hw, h => by rw [Nat.zero_add]; exact hL _ _ _ hw h
  | f + 1, listed, a, w, hw, h => by
    rw [show f + 1 + g = (f + g) + 1 by omega]
    exact ⟨fun h0 => absurd h0 h.1, fun i hi => wpOp_of_qOp hw (fun a' w' hw' h' => wpAny_of_headP hL f _ a' w' hw' h') (h.2 i hi).2⟩
theorem wpAnyP_first {t0 : Nat} {tl hd : List Nat} {i : Nat} {oi : Oper} {v : Value} {L : Array Bool → Act → Prop} (hi : ops[i]? = some oi) (hsel : ∀ (j : Nat) (o : Oper) cs b, ops[j]? = some o → o.op ≠ .select cs b)
    (hs : sinkL md ops t0 hd = true) (hc : chainL md ops t0 tl = true) (hin : i ∈ hd)
    (hdone : ∀ listed a, L listed a → ∀ j ∈ Region.ready md ops listed, j ∈ t0 :: tl) :
    ∀ (f : Nat) (listed : Array Bool) (a : Act), HeadL md ops (t0 :: tl) listed →
      (∀ j oj, ops[j]? = some oj → j ≠ i → listed.getD j true = false → (∀ e ∈ oj.after, Region.binds md e = true → e.on ≠ i) → oi.apart ops oj = true) →
      i ∈ Region.ready md ops listed → YieldsIn P ops C oi v a →
      wpAnyP P md ops C (t0 :: tl) L f (listed.setIfInBounds i true) (a.put oi.dst v) → wpAnyP P md ops C (t0 :: tl) L (f + 1) listed a := by
  intro f
  induction f with
  | zero =>
    intro listed a inv _ hr hy H
    have hun := (mem_ready.1 hr).1
    refine ⟨fun h => (by rw [h] at hr; cases hr), fun j hj => ?_⟩
    have hjn : j ∉ t0 :: tl := fun hm => tail_waitsL hc inv hd hs i hin hun j hm hj
    refine ⟨hjn, ?_⟩
    by_cases hji : j = i
    · subst hji; exact hy.qOp hi H
    · exact absurd (hdone _ _ H j (ready_mono hj hji)) hjn
  | succ f ih =>
    intro listed a inv hfree hr hy H
    have hun := (mem_ready.1 hr).1
    refine ⟨fun h => (by rw [h] at hr; cases hr), fun j hj => ?_⟩
    have hjn : j ∉ t0 :: tl := fun hm => tail_waitsL hc inv hd hs i hin hun j hm hj
    refine ⟨hjn, ?_⟩
    by_cases hji : j = i
    · subst hji; exact hy.qOp hi H
    · have h1 := (H.2 j (ready_mono hj hji)).2
      obtain ⟨hjun, oj, hoj, hall⟩ := mem_ready.1 hj
      have hnot : ∀ e ∈ oj.after, Region.binds md e = true → e.on ≠ i := fun e he hb heq => by
        have h1 := hall e he hb
        rw [heq, getD_both hun] at h1
        cases h1
      have h2 := qOp_put hoj (hfree j oj hoj hji hjun hnot) (fun cs b => hsel i oi cs b hi) (fun cs b => hsel j oj cs b hoj) hy h1
      have hfree' : ∀ k ok, ops[k]? = some ok → k ≠ i → (listed.setIfInBounds j true).getD k true = false →
          (∀ e ∈ ok.after, Region.binds md e = true → e.on ≠ i) → oi.apart ops ok = true := fun k ok hk hki hun hno => by
        refine hfree k ok hk hki ?_ hno
        by_cases hjk : j = k
        · subst hjk; exact hjun
        · rw [getD_set_ne true hjk] at hun; exact hun
      refine qOp_mono (fun a' h3 => ih (listed.setIfInBounds j true) a' (inv.set hj hjn) hfree' (ready_mono hr (Ne.symm hji)) h3.1 ?_) h2
      rw [Array.setIfInBounds_comm _ _ hji]
      exact h3.2

def seqL (md : Region.Mode) (ops : Array Oper) : List Nat → Array Bool → Bool
  | [], listed => (Region.ready md ops listed).isEmpty
  | k :: s, listed => decide (Region.ready md ops listed = [k]) && seqL md ops s (listed.setIfInBounds k true)
def headL (md : Region.Mode) (ops : Array Oper) (tl : List Nat) : List Nat → Array Bool → Bool
  | [], listed => seqL md ops tl listed
  | k :: s, listed => (Region.ready md ops listed).contains k && Region.free md ops listed k && headL md ops tl s (listed.setIfInBounds k true)
theorem seqL_ready {t0 : Nat} {tl : List Nat} {listed : Array Bool} (h : seqL md ops (t0 :: tl) listed = true) : ∀ j ∈ Region.ready md ops listed, j ∈ t0 :: tl := by
  intro j hj
  simp only [seqL, Bool.and_eq_true, decide_eq_true_eq] at h
  rw [h.1] at hj
  have : j = t0 := by simpa using hj
  simp [this]
theorem wpAny_of_seqL {Q' : Exit → Act → World → Prop} : ∀ (is : List Nat) (l : List Oper) (listed : Array Bool) (a : Act) (w : World), is.map (ops[·]?) = l.map some →
    seqL md ops is listed = true → wpList P ops Q' l a w → wpAny P md ops Q' is.length listed a w
  | [], l, _, _, _, hl, hB, h => by
    have : l = [] := by simpa using hl.symm
    subst this
    exact ⟨by simpa [seqL] using hB, h⟩
  | k :: s, l, listed, a, w, hl, hB, h => by
    obtain ⟨o, l', rfl⟩ : ∃ o l', l = o :: l' := by
      cases l with
      | nil => simp at hl
      | cons o l' => exact ⟨o, l', rfl⟩
    simp only [List.map_cons, List.cons.injEq] at hl
    simp only [seqL, Bool.and_eq_true, decide_eq_true_eq] at hB
    refine ⟨fun h1 => (by rw [hB.1] at h1; cases h1), fun i hi => ?_⟩
    rw [hB.1] at hi
    have hik : i = k := by simpa using hi
    subst hik
    have hw : wpOp P ops Q' i (wpList P ops Q' l') a w := by unfold wpOp; simp only [hl.1]; exact h
    exact wpOp_mono (fun a' w' h' => wpAny_of_seqL s l' _ a' w' hl.2 hB.2 h') hw
theorem wpAnyP_lex {t0 : Nat} {tl hd : List Nat} {Lq : Act → Prop} (hsel : Region.noSelect ops = true) (hs : sinkL md ops t0 hd = true) (hc : chainL md ops t0 tl = true) :
    ∀ (is : List Nat) (l : List Oper) (listed : Array Bool) (a : Act), (∀ i ∈ is, i ∈ hd) → (∀ i ∈ is, i ∉ t0 :: tl) → is.map (ops[·]?) = l.map some → HeadL md ops (t0 :: tl) listed →
    headL md ops (t0 :: tl) is listed = true → wpQuiet P ops C Lq l a →
    wpAnyP P md ops C (t0 :: tl) (fun listed' a' => seqL md ops (t0 :: tl) listed' = true ∧ Lq a') is.length listed a
  | [], l, listed, a, _, _, hl, _, hB, h => by
    have : l = [] := by simpa using hl.symm
    subst this
    exact ⟨by simpa [headL] using hB, h⟩
  | k :: s, l, listed, a, hsub, hnt, hl, inv, hB, h => by
    obtain ⟨o, l', rfl⟩ : ∃ o l', l = o :: l' := by
      cases l with
      | nil => simp at hl
      | cons o l' => exact ⟨o, l', rfl⟩
    simp only [List.map_cons, List.cons.injEq] at hl
    simp only [headL, Bool.and_eq_true] at hB
    obtain ⟨⟨hr, hf⟩, hB'⟩ := hB
    have hr' : k ∈ Region.ready md ops listed := by simpa using hr
    have hst : qOp P ops C k (wpQuiet P ops C Lq l') a := by unfold qOp; simp only [hl.1]; exact h
    obtain ⟨v, hy, hK⟩ := yieldsIn_of_qOp hl.1 hst
    exact wpAnyP_first hl.1 (Region.noSelect_spec hsel) hs hc (hsub k (by simp)) (fun listed' a' hL => seqL_ready hL.1) s.length listed a inv (Region.free_spec hl.1 hf) hr' hy
      (wpAnyP_lex hsel hs hc s l' _ _ (fun i hi => hsub i (by simp [hi])) (fun i hi => hnt i (by simp [hi])) hl.2 (inv.set hr' (hnt k (by simp))) hB' hK)

/-- Operations that yield a value, whatever the world, or do not yield at all. -/
def plainOp : Op → Bool
  | .move _ | .nilCheck _ | .fieldAddr .. | .field .. | .binOp .. | .unOp .. | .indexAddr .. | .index .. | .slice .. | .makeInterface .. | .convert .. | .extract .. => true
  | _ => false
theorem nilCheck_run {o : Oper} {a : Act} {w : World} {x : Operand} (hop : o.op = .nilCheck x) : (∃ u w', (execOp a.eval o).run P w = .ok (.value u) w') ∨ (∃ u w', (execOp a.eval o).run P w = .halt u w') := by
  unfold execOp
  rw [hop]
  dsimp only
  split
  · exact .inr ⟨_, _, rfl⟩
  · exact .inr ⟨_, _, rfl⟩
  · exact .inr ⟨_, _, rfl⟩
  · split
    · exact .inr ⟨_, _, rfl⟩
    · rename_i name first captured _ _ t w1 _
      simp only [Sem.run_bind]
      generalize hr : Sem.run P _ w = r
      cases r with
      | halt u w' => exact .inr ⟨u, w', rfl⟩
      | ok p w2 =>
        simp only [Result.andThen_ok]
        generalize hr2 : Sem.run P (nilAhead _ _ _ _) w2 = r2
        cases r2 with
        | halt u w' => exact .inr ⟨u, w', rfl⟩
        | ok p w2 =>
          simp only [Result.andThen_ok]
          split
          · exact .inr ⟨_, _, rfl⟩
          · exact .inl ⟨_, _, rfl⟩
    · exact .inl ⟨_, _, rfl⟩
  · exact .inl ⟨_, _, rfl⟩
theorem value_of_quiet {o : Oper} {a : Act} {v : Value} {C : World → Prop} {w : World} (ho : plainOp o.op = true) (h : o.quietAt P a C w v) : (execOp a.eval o).run P w = .ok (.value v) w := by
  have key : (∃ x : Sem Value, execOp a.eval o = (do let y ← x; pure (.value y))) ∨ (∃ u w', (execOp a.eval o).run P w = .ok (.value u) w') ∨ (∃ u w', (execOp a.eval o).run P w = .halt u w') := by
    cases hop : o.op
    all_goals rw [hop] at ho
    all_goals first
      | (exact .inl ⟨_, by unfold execOp; rw [hop]⟩)
      | (exact .inl ⟨_, by unfold execOp; rw [hop]; rfl⟩)
      | (exact .inr (nilCheck_run hop))
      | (exact .inr (.inl ⟨_, _, by unfold execOp; rw [hop]; rfl⟩))
      | (exact absurd ho (by simp [plainOp]))
  rcases key with ⟨x, hx⟩ | ⟨u, w', hu⟩ | ⟨u, w', hu⟩
  · unfold Oper.quietAt at h
    rw [hx, Sem.run_bind] at h ⊢
    cases hr : x.run P w with
    | ok y w' =>
      rw [hr] at h
      simp only [Result.andThen_ok, Sem.run_pure, Oper.quietUpon] at h ⊢
      rw [h.1, h.2]
    | halt y w' =>
      rw [hr] at h
      simp [Result.andThen, Oper.quietUpon] at h
  · unfold Oper.quietAt at h
    rw [hu] at h ⊢
    simp only [Oper.quietUpon] at h
    rw [h.1, h.2]
  · unfold Oper.quietAt at h
    rw [hu] at h
    simp [Oper.quietUpon] at h
def preL (md : Region.Mode) (ops : Array Oper) (hd tl : List Nat) : List Nat → Array Bool → Bool
  | [], listed => headL md ops tl hd listed
  | k :: s, listed => (Region.ready md ops listed).contains k && Region.free md ops listed k && ((ops[k]?).map (plainOp ·.op)).getD false && preL md ops hd tl s (listed.setIfInBounds k true)
def permB (md : Region.Mode) (ops : Array Oper) (pre hd : List Nat) (t0 : Nat) (tl : List Nat) : Bool :=
  Region.noSelect ops && sinkL md ops t0 hd && chainL md ops t0 tl && (decide (pre.length + hd.length + (tl.length + 1) = ops.size)) && (hd.all fun i => !(t0 :: tl).contains i) && (pre.all fun i => !(t0 :: tl).contains i) && preL md ops hd (t0 :: tl) pre (Array.replicate ops.size false)
theorem map_pick {l : List Oper} {is : List Nat} (h : ∀ i ∈ is, i < l.length) : is.map (l.toArray[·]?) = (pickOps l is).map some := by
  unfold pickOps
  rw [List.map_map]
  refine List.map_congr_left fun i hi => ?_
  simp [h i hi, nthOp_get l i (h i hi)]
theorem preL_lt {hd tl : List Nat} : ∀ (pre : List Nat) (listed : Array Bool), preL md ops hd tl pre listed = true → (∀ i ∈ pre, i < ops.size) ∧ ∃ listed', headL md ops tl hd listed' = true
  | [], listed, h => ⟨by simp, listed, h⟩
  | k :: s, listed, h => by
    simp only [preL, Bool.and_eq_true] at h
    obtain ⟨h1, h2⟩ := preL_lt s _ h.2
    refine ⟨fun i hi => ?_, h2⟩
    cases hi with
    | head =>
      have : k ∈ Region.ready md ops listed := by simpa using h.1.1.1
      obtain ⟨_, o, ho, _⟩ := mem_ready.1 this
      exact (Array.getElem?_eq_some_iff.1 ho).1
    | tail _ hi => exact h1 i hi
theorem ready_lt {i : Nat} {listed : Array Bool} (h : i ∈ Region.ready md ops listed) : i < ops.size := by
  obtain ⟨_, o, ho, _⟩ := mem_ready.1 h
  exact (Array.getElem?_eq_some_iff.1 ho).1
theorem seqL_lt : ∀ (tl : List Nat) (listed : Array Bool), seqL md ops tl listed = true → ∀ i ∈ tl, i < ops.size
  | [], _, _, _, h => by cases h
  | k :: s, listed, h, i, hi => by
    simp only [seqL, Bool.and_eq_true, decide_eq_true_eq] at h
    cases hi with
    | head => exact ready_lt (listed := listed) (by rw [h.1]; simp)
    | tail _ hi => exact seqL_lt s _ h.2 i hi
theorem headL_lt {tl : List Nat} : ∀ (hd : List Nat) (listed : Array Bool), headL md ops tl hd listed = true → (∀ i ∈ hd, i < ops.size) ∧ (∀ i ∈ tl, i < ops.size)
  | [], listed, h => ⟨by simp, seqL_lt tl listed h⟩
  | k :: s, listed, h => by
    simp only [headL, Bool.and_eq_true] at h
    obtain ⟨h1, h2⟩ := headL_lt s _ h.2
    refine ⟨fun i hi => ?_, h2⟩
    cases hi with
    | head => exact ready_lt (listed := listed) (by simpa using h.1.1)
    | tail _ hi => exact h1 i hi

theorem wpAny_of_pre {Q : Exit → Act → World → Prop} {t0 : Nat} {hd tl : List Nat} {w : World} {l : List Oper} (hops : ops = l.toArray) (hsel : Region.noSelect ops = true) (hs : sinkL md ops t0 hd = true) (hc : chainL md ops t0 tl = true)
    (hnt : ∀ i ∈ hd, i ∉ t0 :: tl) (hQ : ∀ c d v a w, Q (.panic c) (Act.put a d v) w → Q (.panic c) a w) (hC : C w) :
    ∀ (is : List Nat) (lp : List Oper) (listed : Array Bool) (a : Act), (∀ i ∈ is, i ∉ t0 :: tl) → is.map (ops[·]?) = lp.map some → HeadL md ops (t0 :: tl) listed → preL md ops hd (t0 :: tl) is listed = true →
      wpQuiet P ops (fun _ => True) (fun a1 => wpQuiet P ops C (fun a2 => ∀ w', C w' → wpList P ops Q (pickOps l (t0 :: tl)) a2 w') (pickOps l hd) a1) lp a →
      wpAny P md ops Q (is.length + (hd.length + (tl.length + 1))) listed a w
  | [], lp, listed, a, _, hl, inv, hB, h => by
    have : lp = [] := by simpa using hl.symm
    subst this
    obtain ⟨hlt1, hlt2⟩ := headL_lt hd listed hB
    have hm1 : hd.map (ops[·]?) = (pickOps l hd).map some := by rw [hops]; exact map_pick (fun i hi => by have := hlt1 i hi; rw [hops] at this; simpa using this)
    have hm2 : (t0 :: tl).map (ops[·]?) = (pickOps l (t0 :: tl)).map some := by rw [hops]; exact map_pick (fun i hi => by have := hlt2 i hi; rw [hops] at this; simpa using this)
    have H := wpAnyP_lex (C := C) (md := md) hsel hs hc hd (pickOps l hd) listed a (fun _ h => h) hnt hm1 inv hB h
    have := wpAny_of_headP (Q' := Q) (g := tl.length + 1) (fun listed a' w' hw' hL => by
      exact wpAny_of_seqL (md := md) (Q' := Q) (t0 :: tl) (pickOps l (t0 :: tl)) listed a' w' hm2 hL.1 (hL.2 w' hw')) _ _ _ _ hC H
    simpa using this
  | k :: s, lp, listed, a, hks, hl, inv, hB, h => by
    obtain ⟨o, l', rfl⟩ : ∃ o l', lp = o :: l' := by
      cases lp with
      | nil => simp at hl
      | cons o l' => exact ⟨o, l', rfl⟩
    simp only [List.map_cons, List.cons.injEq] at hl
    simp only [preL, Bool.and_eq_true] at hB
    obtain ⟨⟨⟨hr, hf⟩, hp⟩, hB'⟩ := hB
    rw [hl.1] at hp
    have hp' : plainOp o.op = true := by simpa using hp
    have hst : qOp P ops (fun _ => True) k (wpQuiet P ops (fun _ => True) (fun a1 => wpQuiet P ops C (fun a2 => ∀ w', C w' → wpList P ops Q (pickOps l (t0 :: tl)) a2 w') (pickOps l hd) a1) l') a := by unfold qOp; simp only [hl.1]; exact h
    obtain ⟨v, hy, hK⟩ := yieldsIn_of_qOp hl.1 hst
    have hy' : Yields P ops o v a := by
      rcases hy with ⟨hw, hv⟩ | ⟨hw, rfl⟩
      · exact .inl ⟨hw, fun w => value_of_quiet hp' (hv w trivial)⟩
      · exact .inr ⟨hw, rfl⟩
    have hr' : k ∈ Region.ready md ops listed := by simpa using hr
    rw [show (k :: s).length + (hd.length + (tl.length + 1)) = (s.length + (hd.length + (tl.length + 1))) + 1 by simp; omega]
    exact wpAny_take hl.1 hsel hf hr (fun c a w h => hQ c _ _ a w h) hy'
      (wpAny_of_pre hops hsel hs hc hnt hQ hC s l' _ _ (fun i hi => hks i (by simp [hi])) hl.2 (inv.set hr' (hks k (by simp))) hB' hK)

/-- THE LAW: a region that draws its order, walked once, in an order of one's own. -/
theorem region_perm {id : Nat} {Q : Exit → Act → World → Prop} {a : Act} {w : World} {l : List Oper} (pre hd : List Nat) (t0 : Nat) (tl : List Nat) (hm : P.follows .mixedOrders = true) (hB : permB .any l.toArray pre hd t0 tl = true)
    (hQ : ∀ c d v a w, Q (.panic c) (Act.put a d v) w → Q (.panic c) a w) (hC : C w.drew)
    (h : wpQuiet P l.toArray (fun _ => True) (fun a1 => wpQuiet P l.toArray C (fun a2 => ∀ w', C w' → wpList P l.toArray Q (pickOps l (t0 :: tl)) a2 w') (pickOps l hd) a1) (pickOps l pre) a) : (Code.region id l.toArray true).wp P Q a w := by
  simp only [permB, Bool.and_eq_true, decide_eq_true_eq] at hB
  obtain ⟨⟨⟨⟨⟨⟨hsel, hs⟩, hc⟩, hlen⟩, hn1⟩, hn2⟩, hpre⟩ := hB
  have inv0 : HeadL .any l.toArray (t0 :: tl) (Array.replicate l.toArray.size false) := by
    refine ⟨by simp, fun j oj _ hl => (by rw [getD_replicate_false] at hl; cases hl), fun t ht => getD_in ?_ (getD_replicate_false _ _)⟩
    obtain ⟨_, listed', hh⟩ := preL_lt pre _ hpre
    have := (headL_lt hd listed' hh).2 t ht
    simpa using this
  have hm1 : pre.map (l.toArray[·]?) = (pickOps l pre).map some := map_pick (fun i hi => by have := (preL_lt pre _ hpre).1 i hi; simpa using this)
  refine wp_region_any hm ?_
  have := wpAny_of_pre (C := C) (md := .any) (l := l) (w := w.drew) rfl hsel hs hc (fun i hi => by have := List.all_eq_true.1 hn1 i hi; simpa using this) hQ hC pre (pickOps l pre) _ a (fun i hi => by have := List.all_eq_true.1 hn2 i hi; simpa using this) hm1 inv0 hpre h
  rw [show pre.length + (hd.length + (tl.length + 1)) = l.toArray.size by omega] at this
  exact this
end
end Go.Proofs.YtamdhaoglapnnaaGreatDoor
end

section
/- string(b) of a slice of bytes; a constant []byte("..."). -/
namespace Go.Proofs.YtamdhaoglapnnaaGreatDoor
open Go.RowKit
section
variable {P : Program}
theorem nums_back (xs : List UInt8) : (xs.map bv).map (fun n => UInt8.ofNat n.toNat) = xs := by
  rw [List.map_map]
  conv => rhs; rw [← List.map_id xs]
  refine List.map_congr_left fun x _ => ?_
  simp [bv]
theorem run_to_string (w : World) {ok : Nat → Prop} (src e dst : TypeId) (hs : P.underlying src = some (.slice e)) (he : P.underlying e = some (.int .u8)) (hd : P.underlying dst = some .string) (A : Option Addr) (xs : List UInt8) (cap : Nat) (hr : Rd w ok A (xs.map B)) :
    (convert src dst (.slice A xs.length cap)).run P w = .ok (.string ⟨xs.toArray⟩) w := by
  cases A with
  | none =>
    have : xs = [] := by
      cases xs with
      | nil => rfl
      | cons x xs => obtain ⟨_, h, _⟩ := hr (by simp); cases h
    subst this
    exact run_convert_bytes_nil (P := P) w src e hs he _ cap dst hd
  | some ad =>
    have hl : (loadCells ad xs.length).run P w = .ok ((xs.map bv).map (Value.int .u8)).toArray w := by
      have := run_loadCells_list (P := P) w ad ((xs.map bv).map (Value.int .u8)) (fun j v hv => by
        have hv' : (xs.map B)[j]? = some v := by rw [List.map_map] at hv; exact hv
        obtain ⟨ad', h, _, hc⟩ := hr (by have := (List.getElem?_eq_some_iff.1 hv').1; omega)
        injection h with h
        subst h
        exact hc j v hv')
      simpa using this
    rw [run_convert_bytes_string w src dst e _ _ cap hs he hd, run_bytesToString w _ _ cap _ hl, foldl_push_bytes, nums_back]
    simp [ByteArray.empty, ByteArray.emptyWithCapacity]; rfl
theorem wpList_to_string {ops : Array Oper} {rest : List Oper} {o : Oper} {a : Act} {w : World} {Q : Exit → Act → World → Prop} {ok : Nat → Prop} (hgd : o.guard = none) (src dst : TypeId) (x : Operand) (ho : o.op = .convert src dst x)
    (e : TypeId) (hs : P.underlying src = some (.slice e)) (he : P.underlying e = some (.int .u8)) (hd : P.underlying dst = some .string) (A : Option Addr) (xs : List UInt8) (cap : Nat) (hx : a.eval x = .slice A xs.length cap) (hr : Rd w ok A (xs.map B))
    (h : wpList P ops Q rest (a.put o.dst (.string ⟨xs.toArray⟩)) w) : wpList P ops Q (o :: rest) a w := by
  refine wpList_run _ ho hgd _ ?_ h
  simp only [execOp, ho, hx, Sem.run_bind, run_to_string w src e dst hs he hd A xs cap hr, Result.andThen_ok, Sem.run_pure]
theorem wpQuiet_to_string {ops : Array Oper} {rest : List Oper} {o : Oper} {a : Act} {C : World → Prop} {Q : Act → Prop} {ok : Nat → Prop} (src dst : TypeId) (x : Operand) (ho : o.op = .convert src dst x) (hgd : o.guard = none)
    (e : TypeId) (hs : P.underlying src = some (.slice e)) (he : P.underlying e = some (.int .u8)) (hd : P.underlying dst = some .string) (A : Option Addr) (xs : List UInt8) (cap : Nat) (hx : a.eval x = .slice A xs.length cap) (hr : ∀ w, C w → Rd w ok A (xs.map B))
    (h : wpQuiet P ops C Q rest (a.put o.dst (.string ⟨xs.toArray⟩))) : wpQuiet P ops C Q (o :: rest) a := by
  refine wpQuiet_run _ ho hgd _ (fun w hw => ?_) h
  simp only [execOp, ho, hx, Sem.run_bind, run_to_string w src e dst hs he hd A xs cap (hr w hw), Result.andThen_ok, Sem.run_pure]
end
end Go.Proofs.YtamdhaoglapnnaaGreatDoor
end

section
/- Regions that draw their order and hold calls that make memory but hand plain values back: quiet in the class of all worlds that lie over one world. -/
namespace Go.Proofs.YtamdhaoglapnnaaGreatDoor
open Go.RowKit

/-- The worlds in which nothing of W has turned. -/
def Over (W : World) : Type := { x : World // Below W.heap.size W x }
theorem over_nonempty (W : World) : Nonempty (Over W) := ⟨⟨W, Below.refl _ _⟩⟩
section
variable {P : Program}
theorem quiet_over {id : Nat} {Q : Exit → Act → World → Prop} {a : Act} {w : World} {l : List Oper} (hm : P.follows .mixedOrders = true) (hB : Region.lexB .any l.toArray = true)
    (h : wpQuiet P l.toArray (fun w' => ∃ s : Over w, w' = s.1) (fun a' => ∀ w', (∃ s : Over w, w' = s.1) → Q .normal a' w') l a) : (Code.region id l.toArray true).wp P Q a w :=
  wp_region_quiet (C := fun w' => ∃ s : Over w, w' = s.1) hm hB ⟨⟨w.drew, (Below.refl _ _).drew⟩, rfl⟩ (by simpa using h)
theorem quiet_over_tail {id : Nat} {Q : Exit → Act → World → Prop} {a : Act} {w : World} {l : List Oper} (n : Nat) (hm : P.follows .mixedOrders = true) (hB : Region.lexTailB .any l.toArray n = true)
    (h : wpQuiet P l.toArray (fun w' => ∃ s : Over w, w' = s.1) (fun a' => ∀ w', (∃ s : Over w, w' = s.1) → wpList P l.toArray Q (l.drop n) a' w') (l.take n) a) : (Code.region id l.toArray true).wp P Q a w :=
  quiet_tail_in (C := fun w' => ∃ s : Over w, w' = s.1) n hm hB ⟨⟨w.drew, (Below.refl _ _).drew⟩, rfl⟩ h
/-- A callee that hands v back and turns nothing that was there. -/
theorem calls_over {f : FuncId} {args : Array Value} {W : World} {v : Value} (s : Over W) (h : Calls P f args s.1 fun e w' => e = .returned v ∧ Below s.1.heap.size s.1 w') :
    Calls P f args s.1 fun e w'' => e = .returned v ∧ ∃ s' : Over W, w'' = s'.1 :=
  h.mono fun _ w' ⟨he, hb⟩ => ⟨he, ⟨w', s.2.trans (hb.mono s.2.size)⟩, rfl⟩
theorem blk_over {W : World} {g : Nat} {t : TypeId} {cs : List Value} (h : Blk W g t cs) (s : Over W) : Blk s.1 g t cs := h.below s.2 h.lt
end
end Go.Proofs.YtamdhaoglapnnaaGreatDoor
end
end
section
/- Joined: DgB, Hex, Parse, BackS, ArrEq, Less, ParseP, RHex. -/
section
/- Small words on bytes and digests. -/
namespace Go.Proofs.YtamdhaoglapnnaaGreatDoor
open Go.RowKit

theorem all_B (l : List UInt8) : ∀ v ∈ l.map B, v.oneCell' = true := by
  intro v hv
  obtain ⟨x, _, rfl⟩ := List.mem_map.1 hv
  rfl
def zero32 : List Value := List.replicate 32 (B 0)
theorem zeros32 : (Tryz.prog.info? 115).map (fun i => (i.zero, i.size)) = some (some (.agg zero32.toArray), 32) := by kernel_rfl
theorem info8 : InfoOf Tryz.prog 5 (B 0) 1 1 := ⟨by kernel_rfl, rfl, by decide⟩
end Go.Proofs.YtamdhaoglapnnaaGreatDoor
end

section
/- The walk of digest.Hex. -/
namespace Go.Proofs.YtamdhaoglapnnaaGreatDoor
open Go.RowKit

def hexDigits : List UInt8 := [48, 49, 50, 51, 52, 53, 54, 55, 56, 57, 97, 98, 99, 100, 101, 102]
def hexD (n : Nat) : UInt8 := hexDigits.getD n 0
def hexOf (d : List UInt8) : List UInt8 := d.flatMap fun x => [hexD (x.toNat / 16), hexD (x.toNat % 16)]
def digitsB : ByteArray := ⟨hexDigits.toArray⟩
theorem hi_eq (x : UInt8) : bv x / 16 = ((x.toNat / 16 : Nat) : Int) := by unfold bv; omega
theorem lo_eq (x : UInt8) : bits .and .u8 (bv x) 15 = ((x.toNat % 16 : Nat) : Int) := by
  have h : (15 : Int) = bv 15 := by decide
  rw [h, b_and]
  unfold bv
  rw [UInt8.toNat_and]
  exact congrArg _ (Nat.and_two_pow_sub_one_eq_mod x.toNat 4)
theorem index_hex (n : Nat) (hn : n < 16) (w : World) : (Instr.index 9 (.string digitsB) (.int .u8 (n : Int))).run Tryz.prog w = .ok (B (hexD n)) w := by
  obtain rfl | rfl | rfl | rfl | rfl | rfl | rfl | rfl | rfl | rfl | rfl | rfl | rfl | rfl | rfl | rfl : n = 0 ∨ n = 1 ∨ n = 2 ∨ n = 3 ∨ n = 4 ∨ n = 5 ∨ n = 6 ∨ n = 7 ∨ n = 8 ∨ n = 9 ∨ n = 10 ∨ n = 11 ∨ n = 12 ∨ n = 13 ∨ n = 14 ∨ n = 15 := by omega
  all_goals kernel_rfl
theorem index_dig (d : List UInt8) (hd : d.length = 32) (k : Nat) (hk : k < 32) (w : World) : (Instr.index 115 (.agg (d.map B).toArray) (.int .i64 (k : Int))).run Tryz.prog w = .ok (B (d.getD k 0)) w := by
  have h1 : (sizeOf 5).run Tryz.prog w = .ok 1 w := by kernel_rfl
  simp [Instr.index, asIntOf, run_underlying Tryz.underlying115, h1, part, hd, hk]

theorem wpQuiet_hex {ops : Array Oper} {rest : List Oper} {o : Oper} {a : Act} {C : World → Prop} {Q : Act → Prop} (y : Operand) (ho : o.op = .index 9 (.const (.string digitsB)) y) (hgd : o.guard = none)
    (n : Nat) (hn : n < 16) (hy : a.eval y = .int .u8 (n : Int)) (h : wpQuiet Tryz.prog ops C Q rest (a.put o.dst (B (hexD n)))) : wpQuiet Tryz.prog ops C Q (o :: rest) a := by
  refine wpQuiet_run _ ho hgd _ (fun w _ => ?_) h
  have e : a.eval (.const (.string digitsB)) = .string digitsB := rfl
  simp only [execOp, ho, e, hy, Sem.run_bind, index_hex n hn w, Result.andThen_ok, Sem.run_pure]
theorem hexOf_take (d : List UInt8) (k : Nat) (hk : k < d.length) : hexOf (d.take (k + 1)) = hexOf (d.take k) ++ [hexD ((d.getD k 0).toNat / 16), hexD ((d.getD k 0).toNat % 16)] := by
  rw [List.take_succ_eq_append_getElem hk]
  unfold hexOf
  rw [List.flatMap_append]
  simp [hk]
theorem hexOf_length (d : List UInt8) : (hexOf d).length = 2 * d.length := by
  induction d with
  | nil => rfl
  | cons x d ih => simp only [hexOf, List.flatMap_cons, List.length_append, List.length_cons, List.length_nil] at ih ⊢; omega

attribute [local go_sem] hi_eq lo_eq
set_option maxRecDepth 100000 in
set_option maxHeartbeats 1000000 in
theorem hex_any (d : List UInt8) (hd : d.length = 32) (w : World) :
    Calls Tryz.prog 65 #[.agg (d.map B).toArray] w fun e w' => e = .returned (.string ⟨(hexOf d).toArray⟩) ∧ Below w.heap.size w w' := by
  have hsz0 : (Tryz.prog.info? 115).map (·.size) = some (d.map B).length := by rw [List.length_map, hd]; kernel_rfl
  replace hsz0 := Lib.hid hsz0
  replace hd := Lib.hid hd
  go_enter Tryz.func65, Tryz.ntmps65
  go_wp2_with (refine wpList_load_blk rfl 115 (.tmp 1) rfl w.heap.size rfl 115 (d.map B) (Blk.new_at rfl) _ Tryz.underlying115 rfl hsz0.out ?_)
  go_loopw [7, 3] (fun i v wr => ∃ k : Nat, k ≤ 32 ∧ i = .int .i64 (k : Int) ∧ wr.ownsRow (w.heap.size + 1) 5 1 v (hexOf (d.take k)).length ((hexOf (d.take k)).map B) ∧ Below w.heap.size w wr ∧ w.heap.size + 1 ≤ wr.heap.size) (fun i _ _ => 32 - (intOf i).toNat)
  case atStart => exact ⟨0, by omega, rfl, World.ownsRow_nil _ _ _ _, (Below.refl _ _).alloc (Nat.le_refl _) _, by simp⟩
  case round =>
    obtain ⟨k, hk, rfl, hown, hb, hsz⟩ := hrel
    obtain ⟨ys, hys⟩ : ∃ ys, ys = hexOf (d.take k) := ⟨_, rfl⟩
    rw [← hys] at hown
    obtain ⟨A, cap, rfl, hcap, hcap2⟩ := own_form hown
    have hyl : ys.length ≤ 64 := by rw [hys, hexOf_length, List.length_take]; omega
    replace hys := Lib.hid hys
    by_cases hlt : k < 32
    · obtain ⟨x, hx⟩ : ∃ x, x = d.getD k 0 := ⟨_, rfl⟩
      have hidx := index_dig d hd.out k hlt
      rw [← hx] at hidx
      replace hx := Lib.hid hx
      have hxlt := x.toNat_lt
      go_wp2
      refine region_perm (C := fun w' => ∃ n, w' = wr.drewN n) [0, 1, 2, 3, 4, 5, 6] [] 7 [8, 9] (by kernel_rfl) (by kernel_rfl) (fun _ d _ _ _ h => by cases d <;> exact h) ⟨1, rfl⟩ ?_
      simp only [pickOps, List.map_cons, List.map_nil, nthOp_zero, nthOp_succ]
      repeat (first
        | (refine wpQuiet_hex (.tmp 12) rfl rfl (x.toNat / 16) (by omega) ?_ ?_; exact congrArg (Value.int .u8) (show ((x.toNat : Int) / 16) = ((x.toNat / 16 : Nat) : Int) by omega); go_frame)
        | (refine wpQuiet_hex (.tmp 15) rfl rfl (x.toNat % 16) (by omega) ?_ ?_; exact congrArg (Value.int .u8) (show ((x.toNat : Int) % 16) = ((x.toNat % 16 : Nat) : Int) by omega); go_frame)
        | go_big_quiet_step (fail))
      refine wpQuiet_nil ?_
      refine wpQuiet_nil ?_
      rintro _ ⟨nq, rfl⟩
      replace hown : (wr.drewN nq).ownsRow (w.heap.size + 1) 5 1 (.slice A ys.length cap) ys.length (ys.map B) := hown
      replace hb := below_drewN hb nq
      have hsz2 : (wr.drewN nq).heap.size = wr.heap.size := rfl
      rw [← hsz2] at hsz
      clear hsz2
      generalize wr.drewN nq = wr at hown hb hsz ⊢
      go_wp2_with (at_builtin; refine wpList_append_rd _ rfl (.tmp 10) (.tmp 17) 49 rfl (w.heap.size + 1) 5 (B 0) 1 1 Tryz.underlying49 info8 (.slice A ys.length cap) ys.length (ys.map B) rfl (hown.alloc _) (· = wr.heap.size) (some ⟨wr.heap.size, 0, none⟩) 2 2 [B (hexD (x.toNat / 16)), B (hexD (x.toNat % 16))] rfl rfl (Rd.of_blk (r := []) (Blk.new_at rfl) rfl rfl) (by simp [Value.oneCell']) (by unfold maxLen; omega) (by omega) (by simp; omega) ?_; intro v' w' hown' hg' _)
      go_roundw
      case rel =>
        refine ⟨k + 1, by omega, by go_num, ?_, ?_, ?_⟩
        · rw [hexOf_take d k (by rw [hd.out]; exact hlt), ← hx.out, ← hys.out, List.length_append, List.map_append]; exact hown'
        · exact (hb.alloc (by omega) _).trans ((own_below (hown.alloc _) hg' (by simp; omega)).mono (by omega))
        · have := hg'.size
          simp at this; omega
      case measure => simp [intOf]; omega
    · obtain rfl : k = 32 := by omega
      have hfin : ys = hexOf d := by rw [hys.out, List.take_of_length_le (by rw [hd.out]; omega)]
      have hrd := own_rd hown
      go_wp2_with (refine wpList_to_string rfl 49 9 (.tmp 20) rfl 5 Tryz.underlying49 Tryz.underlying5 Tryz.underlying9 A ys cap rfl hrd ?_)
      go_ret
      exact ⟨rfl, hb⟩
end Go.Proofs.YtamdhaoglapnnaaGreatDoor
end

section
/- The walks of digest.Parse, of the reference's digit, Parse and Hex. -/
namespace Go.Proofs.YtamdhaoglapnnaaGreatDoor
open Go.RowKit

def digitV (c : UInt8) : Nat := if 48 ≤ c ∧ c ≤ 57 then c.toNat - 48 else if 97 ≤ c ∧ c ≤ 102 then c.toNat - 97 + 10 else 16
theorem digitV_all : ∀ n : Fin 256, digitV (UInt8.ofNat n.1) ≤ 16 ∧ (digitV (UInt8.ofNat n.1) < 16 → hexD (digitV (UInt8.ofNat n.1)) = UInt8.ofNat n.1) := by decide +kernel
theorem digitV_hexD : ∀ n : Fin 16, digitV (hexD n.1) = n.1 := by decide +kernel
theorem digitV_le (c : UInt8) : digitV c ≤ 16 := by
  have := (digitV_all ⟨c.toNat, c.toNat_lt⟩).1
  simpa using this
theorem hexD_digitV (c : UInt8) (h : digitV c < 16) : hexD (digitV c) = c := by
  have := (digitV_all ⟨c.toNat, c.toNat_lt⟩).2
  simp only [UInt8.ofNat_toNat] at this
  exact this h
theorem digitV_found (c : UInt8) (n : Nat) (hn : n < 16) (h : hexD n = c) : digitV c = n := by
  rw [← h]; exact digitV_hexD ⟨n, hn⟩
theorem digitV_none (c : UInt8) (h : ∀ j, j < 16 → hexD j ≠ c) : digitV c = 16 := by
  have h1 := digitV_le c
  rcases Nat.lt_or_ge (digitV c) 16 with h2 | h2
  · exact absurd (hexD_digitV c h2) (h _ h2)
  · omega

/-- What the digest holds behind k letters. -/
def dAfter (l : List UInt8) : Nat → List UInt8
  | 0 => List.replicate 32 0
  | k + 1 => (dAfter l k).set (k / 2) ((dAfter l k).getD (k / 2) 0 * 16 + UInt8.ofNat (digitV (l.getD k 0)))
theorem dAfter_length (l : List UInt8) (k : Nat) : (dAfter l k).length = 32 := by
  induction k with
  | zero => rfl
  | succ k ih => simp [dAfter, ih]
def pok (l : List UInt8) : Bool := decide (l.length = 64) && l.all (fun c => decide (digitV c < 16))
def pd (l : List UInt8) : List UInt8 := if pok l then dAfter l 64 else List.replicate 32 0
theorem pd_length (l : List UInt8) : (pd l).length = 32 := by
  unfold pd; split
  · exact dAfter_length _ _
  · rfl

theorem index_hex64 (n : Nat) (hn : n < 16) (w : World) : (Instr.index 9 (.string digitsB) (.int .i64 (n : Int))).run Tryz.prog w = .ok (B (hexD n)) w := by
  obtain rfl | rfl | rfl | rfl | rfl | rfl | rfl | rfl | rfl | rfl | rfl | rfl | rfl | rfl | rfl | rfl : n = 0 ∨ n = 1 ∨ n = 2 ∨ n = 3 ∨ n = 4 ∨ n = 5 ∨ n = 6 ∨ n = 7 ∨ n = 8 ∨ n = 9 ∨ n = 10 ∨ n = 11 ∨ n = 12 ∨ n = 13 ∨ n = 14 ∨ n = 15 := by omega
  all_goals kernel_rfl
theorem index_str (l : List UInt8) (k : Nat) (hk : k < l.length) (w : World) : (Instr.index 9 (.string ⟨l.toArray⟩) (.int .i64 (k : Int))).run Tryz.prog w = .ok (B (l.getD k 0)) w := by
  have h0 : (⟨l.toArray⟩ : ByteArray)[k]? = some l[k] := by
    have hs : k < (⟨l.toArray⟩ : ByteArray).size := by simpa [ByteArray.size] using hk
    rw [getElem?_pos (⟨l.toArray⟩ : ByteArray) k hs]
    rfl
  simp [Instr.index, asIntOf, run_underlying Tryz.underlying9, h0, hk, bv]

theorem digitV_lo (c : UInt8) (h1 : 48 ≤ bv c) (h2 : bv c ≤ 57) : ((digitV c : Nat) : Int) = bv c - 48 := by
  unfold bv at h1 h2 ⊢
  have : 48 ≤ c ∧ c ≤ 57 := by simp only [UInt8.le_iff_toNat_le]; exact ⟨by simp; omega, by simp; omega⟩
  rw [digitV, if_pos this]; omega
theorem digitV_hi (c : UInt8) (h1 : 97 ≤ bv c) (h2 : bv c ≤ 102) : ((digitV c : Nat) : Int) = bv c - 97 + 10 := by
  unfold bv at h1 h2 ⊢
  have h3 : ¬ (48 ≤ c ∧ c ≤ 57) := by simp only [UInt8.le_iff_toNat_le]; simp; omega
  have h4 : 97 ≤ c ∧ c ≤ 102 := by simp only [UInt8.le_iff_toNat_le]; exact ⟨by simp; omega, by simp; omega⟩
  rw [digitV, if_neg h3, if_pos h4]; omega
theorem digitV_no (c : UInt8) (h1 : ¬ (48 ≤ bv c ∧ bv c ≤ 57)) (h2 : ¬ (97 ≤ bv c ∧ bv c ≤ 102)) : ((digitV c : Nat) : Int) = 16 := by
  unfold bv at h1 h2
  have h3 : ¬ (48 ≤ c ∧ c ≤ 57) := by simp only [UInt8.le_iff_toNat_le]; simp; omega
  have h4 : ¬ (97 ≤ c ∧ c ≤ 102) := by simp only [UInt8.le_iff_toNat_le]; simp; omega
  rw [digitV, if_neg h3, if_neg h4]; rfl

theorem ret_i64 {a b : Int} (h : a = b) : Ending.returned (.int .i64 a) = .returned (.int .i64 b) := by rw [h]

theorem step16 : ∀ (x : Fin 256) (n : Fin 16), (UInt8.ofNat x.1 * 16 + UInt8.ofNat n.1).toNat = (x.1 * 16 + n.1) % 256 ∧ (x.1 * 16 % 256 ||| n.1) = (x.1 * 16 + n.1) % 256 := by decide +kernel
theorem step_mul (x : UInt8) (n : Nat) (hn : n < 16) : (bv x * 16 + (n : Int)) % 256 = bv (x * 16 + UInt8.ofNat n) := by
  have := (step16 ⟨x.toNat, x.toNat_lt⟩ ⟨n, hn⟩).1
  simp only [UInt8.ofNat_toNat] at this
  unfold bv
  rw [this]; omega
theorem step_mul' (x : UInt8) (n : Nat) (hn : n < 16) : bv x * 16 % 256 + (n : Int) = bv (x * 16 + UInt8.ofNat n) := by
  rw [← step_mul x n hn]; omega
theorem step_or (x : UInt8) (n : Nat) (hn : n < 16) : bits .or .u8 (bv x * 16 % 256) (n : Int) = bv (x * 16 + UInt8.ofNat n) := by
  have h := step16 ⟨x.toNat, x.toNat_lt⟩ ⟨n, hn⟩
  simp only [UInt8.ofNat_toNat] at h
  have e1 : bv x * 16 % 256 = bv (UInt8.ofNat (x.toNat * 16 % 256)) := by
    unfold bv; simp
  have e2 : (n : Int) = bv (UInt8.ofNat n) := by
    unfold bv; simp; omega
  rw [e1, e2, b_or]
  unfold bv
  rw [h.1, UInt8.toNat_or, ← h.2]
  congr 1
  have h1 : (UInt8.ofNat (x.toNat * 16 % 256)).toNat = x.toNat * 16 % 256 := by simp
  have h2 : (UInt8.ofNat n).toNat = n := by simp; omega
  rw [h1, h2]
/-- The end of a function with a result in a block and one in a slot. -/
theorem ret_blk2 {P : Program} {fn : Func} {R : Ending → World → Prop} {a : Act} {w : World} {p u : Tmp} {ty : TypeId} (hres : fn.results = #[.cell p ty, .tmp u]) (g : Nat) (t : TypeId) (cs : List Value) (d : TypeDesc) (v2 : Value)
    (hp : a.tmps.getD p undef = .pointer (some ⟨g, 0, none⟩)) (hv : a.tmps.getD u undef = v2) (hg : Blk w g t cs) (hu : P.underlying ty = some d) (hd : (match d with | .struct _ | .array _ _ => true | _ => false) = true)
    (hi : (P.info? ty).map (·.size) = some cs.length) (hdef : a.defers = []) (hR : R (.returned (.tuple #[.agg cs.toArray, v2])) w) : bodyPost P fn R .ret a w := by
  refine bodyPost_ret ?_ hdef hR
  rw [results_cell_tmp hres, hp, hv]
  have h1 : (asAddr (.pointer (some ⟨g, 0, none⟩))).run P w = .ok (⟨g, 0, none⟩ : Addr) w := by simp [asAddr]
  rw [h1, Result.andThen_ok, run_loadVar_row w g t ty cs.toArray (0, 0) d hg hu hd (by simpa using hi), Result.andThen_ok]

def PR (w : World) (l : List UInt8) (k : Nat) (wr : World) : Prop :=
  (∀ j, j < k → digitV (l.getD j 0) < 16) ∧ Blk wr w.heap.size 115 zero32 ∧ Blk wr (w.heap.size + 1) 115 ((dAfter l k).map B) ∧ Below w.heap.size w wr
theorem pok_of {l : List UInt8} (hl : l.length = 64) (h : ∀ j, j < 64 → digitV (l.getD j 0) < 16) : pok l = true := by
  unfold pok
  simp only [hl, decide_true, Bool.true_and, List.all_eq_true, decide_eq_true_eq]
  intro c hc
  obtain ⟨j, hj, rfl⟩ := List.getElem_of_mem hc
  have := h j (by omega)
  simpa [hj] using this
theorem pok_not {l : List UInt8} (j : Nat) (hj : j < l.length) (h : ¬ digitV (l.getD j 0) < 16) : pok l = false := by
  unfold pok
  rw [Bool.and_eq_false_iff]; right
  rw [List.all_eq_false]
  exact ⟨l[j], List.getElem_mem hj, by simpa [hj] using h⟩
theorem pok_len {l : List UInt8} (h : l.length ≠ 64) : pok l = false := by simp [pok, h]

end Go.Proofs.YtamdhaoglapnnaaGreatDoor
end

section
/- A digest's text and back, plainly. -/
namespace Go.Proofs.YtamdhaoglapnnaaGreatDoor

theorem hexOf_get (d : List UInt8) : ∀ (i : Nat), i < d.length → (hexOf d).getD (2 * i) 0 = hexD ((d.getD i 0).toNat / 16) ∧ (hexOf d).getD (2 * i + 1) 0 = hexD ((d.getD i 0).toNat % 16) := by
  induction d with
  | nil => intro i h; simp at h
  | cons x d ih =>
    intro i h
    have e : hexOf (x :: d) = hexD (x.toNat / 16) :: hexD (x.toNat % 16) :: hexOf d := rfl
    rw [e]
    cases i with
    | zero => exact ⟨rfl, rfl⟩
    | succ i =>
      have := ih i (by simpa using h)
      rw [show 2 * (i + 1) = 2 * i + 1 + 1 by omega]
      simp only [List.getD_cons_succ]
      exact this
theorem digitV_hexD' (n : Nat) (h : n < 16) : digitV (hexD n) = n := digitV_hexD ⟨n, h⟩
/-- The byte of two letters. -/
def pairB (l : List UInt8) (i : Nat) : UInt8 := UInt8.ofNat (digitV (l.getD (2 * i) 0)) * 16 + UInt8.ofNat (digitV (l.getD (2 * i + 1) 0))
theorem dAfter_even (l : List UInt8) : ∀ j, j ≤ 32 → dAfter l (2 * j) = (List.range j).map (pairB l) ++ List.replicate (32 - j) 0 := by
  intro j
  induction j with
  | zero => intro _; simp [dAfter]
  | succ j ih =>
    intro hj
    have h1 := ih (by omega)
    have e1 : 2 * j / 2 = j := by omega
    have e2 : (2 * j + 1) / 2 = j := by omega
    have hr : 32 - j = (32 - (j + 1)) + 1 := by omega
    rw [show 2 * (j + 1) = 2 * j + 1 + 1 by omega, dAfter, dAfter, e1, e2, h1, hr, List.replicate_succ]
    have hlen : ((List.range j).map (pairB l)).length = j := by simp
    have g1 : ((List.range j).map (pairB l) ++ (0 : UInt8) :: List.replicate (32 - (j + 1)) 0).getD j 0 = 0 := by
      rw [List.getD_eq_getElem?_getD, List.getElem?_append_right (by omega)]; simp
    have s1 : ∀ v : UInt8, ((List.range j).map (pairB l) ++ (0 : UInt8) :: List.replicate (32 - (j + 1)) 0).set j v = (List.range j).map (pairB l) ++ v :: List.replicate (32 - (j + 1)) 0 := by
      intro v
      rw [List.set_append_right _ _ (by omega), hlen]
      simp
    rw [g1, s1]
    have g2 : ∀ v : UInt8, ((List.range j).map (pairB l) ++ v :: List.replicate (32 - (j + 1)) 0).getD j 0 = v := by
      intro v
      rw [List.getD_eq_getElem?_getD, List.getElem?_append_right (by omega)]; simp
    have s2 : ∀ u v : UInt8, ((List.range j).map (pairB l) ++ u :: List.replicate (32 - (j + 1)) 0).set j v = (List.range j).map (pairB l) ++ v :: List.replicate (32 - (j + 1)) 0 := by
      intro u v
      rw [List.set_append_right _ _ (by omega), hlen]
      simp
    rw [g2, s2, List.range_succ, List.map_append]
    simp [pairB]
theorem pairB_toNat (l : List UInt8) (i : Nat) (h1 : digitV (l.getD (2 * i) 0) < 16) (h2 : digitV (l.getD (2 * i + 1) 0) < 16) : (pairB l i).toNat = digitV (l.getD (2 * i) 0) * 16 + digitV (l.getD (2 * i + 1) 0) := by
  unfold pairB
  have := (step16 ⟨digitV (l.getD (2 * i) 0), by omega⟩ ⟨digitV (l.getD (2 * i + 1) 0), h2⟩).1
  rw [this]
  simp only
  omega
theorem pd_hexOf (d : List UInt8) (hd : d.length = 32) : pok (hexOf d) = true ∧ pd (hexOf d) = d := by
  have hl : (hexOf d).length = 64 := by rw [hexOf_length, hd]
  have hdig : ∀ i, i < 32 → digitV ((hexOf d).getD (2 * i) 0) = (d.getD i 0).toNat / 16 ∧ digitV ((hexOf d).getD (2 * i + 1) 0) = (d.getD i 0).toNat % 16 := by
    intro i hi
    have hx := (d.getD i 0).toNat_lt
    obtain ⟨h1, h2⟩ := hexOf_get d i (by omega)
    rw [h1, h2]
    exact ⟨digitV_hexD' _ (by omega), digitV_hexD' _ (by omega)⟩
  have hok : pok (hexOf d) = true := pok_of hl (fun j hj => by
    have h1 := hdig (j / 2) (by omega)
    have hx := (d.getD (j / 2) 0).toNat_lt
    rcases Nat.mod_two_eq_zero_or_one j with h | h
    · rw [show j = 2 * (j / 2) by omega, h1.1]; omega
    · rw [show j = 2 * (j / 2) + 1 by omega, h1.2]; omega)
  refine ⟨hok, ?_⟩
  unfold pd
  rw [hok, if_pos rfl]
  have := dAfter_even (hexOf d) 32 (by omega)
  rw [show 2 * 32 = 64 from rfl] at this
  rw [this]
  apply List.ext_getElem
  · simp [hd]
  · intro i h1 h2
    have hi : i < 32 := by omega
    have hp := hdig i hi
    have hx := (d.getD i 0).toNat_lt
    have hpn := pairB_toNat (hexOf d) i (by rw [hp.1]; omega) (by rw [hp.2]; omega)
    rw [hp.1, hp.2] at hpn
    have : pairB (hexOf d) i = d.getD i 0 := UInt8.toNat_inj.1 (by rw [hpn]; omega)
    simp [this, h2]
theorem hexOf_pd (l : List UInt8) (h : pok l = true) : hexOf (pd l) = l := by
  have hl : l.length = 64 := by
    unfold pok at h
    simp only [Bool.and_eq_true, decide_eq_true_eq] at h
    exact h.1
  have hall : ∀ j, j < 64 → digitV (l.getD j 0) < 16 := by
    intro j hj
    unfold pok at h
    simp only [Bool.and_eq_true, List.all_eq_true, decide_eq_true_eq] at h
    have hj2 : j < l.length := by omega
    have := h.2 l[j] (List.getElem_mem hj2)
    simpa [hj2] using this
  have hpd : pd l = (List.range 32).map (pairB l) := by
    unfold pd
    rw [h, if_pos rfl]
    have := dAfter_even l 32 (by omega)
    rw [show 2 * 32 = 64 from rfl] at this
    rw [this]; simp
  have hlen : (hexOf (pd l)).length = l.length := by rw [hexOf_length, pd_length, hl]
  apply List.ext_getElem hlen
  intro j h1 h2
  have hj : j < 64 := by omega
  have hg := hexOf_get (pd l) (j / 2) (by rw [pd_length]; omega)
  have hq : (pd l).getD (j / 2) 0 = pairB l (j / 2) := by
    rw [hpd]
    have : j / 2 < 32 := by omega
    simp [this]
  have hpn := pairB_toNat l (j / 2) (hall _ (by omega)) (hall _ (by omega))
  have d1 := hall (2 * (j / 2)) (by omega)
  have d2 := hall (2 * (j / 2) + 1) (by omega)
  rw [hq, hpn] at hg
  have r : (hexOf (pd l)).getD j 0 = l.getD j 0 := by
    rcases Nat.mod_two_eq_zero_or_one j with hm | hm
    · have e : j = 2 * (j / 2) := by omega
      rw [show (digitV (l.getD (2 * (j / 2)) 0) * 16 + digitV (l.getD (2 * (j / 2) + 1) 0)) / 16 = digitV (l.getD (2 * (j / 2)) 0) by omega, hexD_digitV _ d1] at hg
      rw [← e] at hg
      exact hg.1
    · have e : j = 2 * (j / 2) + 1 := by omega
      rw [show (digitV (l.getD (2 * (j / 2)) 0) * 16 + digitV (l.getD (2 * (j / 2) + 1) 0)) % 16 = digitV (l.getD (2 * (j / 2) + 1) 0) by omega, hexD_digitV _ d2] at hg
      rw [← e] at hg
      exact hg.2
  simpa [h1, h2] using r
end Go.Proofs.YtamdhaoglapnnaaGreatDoor
end

section
/- Two arrays of bytes held against each other. -/
namespace Go.Proofs.YtamdhaoglapnnaaGreatDoor
open Go.RowKit
section
variable {P : Program}
theorem run_part_one (w : World) (e : TypeId) (k : IntKind) (he : P.underlying e = some (.int k)) (cs : List Value) (i : Nat) (v : Value) (h : cs[i]? = some v) : (part e cs.toArray i).run P w = .ok v w := by
  simp [part, isAgg, run_underlying he, h]
theorem bv_beq (x y : UInt8) : (bv x == bv y) = (x == y) := by
  rw [Bool.eq_iff_iff, beq_iff_eq, beq_iff_eq]
  exact ⟨bv_inj, fun h => by rw [h]⟩
theorem run_equalIn_arr (w : World) (D : Nat) (t e : TypeId) (n : Nat) (ht : P.underlying t = some (.array n e)) (he : P.underlying e = some (.int .u8)) (hs : (P.info? e).map (·.size) = some 1) (xs ys : List UInt8) (hx : xs.length = n) (hy : ys.length = n)
    (hin : ∀ a b : UInt8, (Op.equalIn D e (B a) (B b)).run P w = .ok (a == b) w) :
    (Op.equalIn (D + 1) t (.agg (xs.map B).toArray) (.agg (ys.map B).toArray)).run P w = .ok (xs == ys) w := by
  cases hq : P.info? e with
  | none => simp [hq] at hs
  | some inf =>
    have hi : inf.size = 1 := by simpa [hq] using hs
    have hsz : (sizeOf e).run P w = .ok 1 w := by simp [sizeOf, typeInfo, hq, hi]
    simp only [Op.equalIn, Sem.run_bind, run_underlying ht, Result.andThen_ok, hsz, Std.Legacy.Range.forIn_eq_forIn_range', Std.Legacy.Range.size]
    have e0 : (xs == ys) = (xs.drop 0 == ys.drop 0) := by simp
    rw [e0]
    have e1 : (n - 0 + 1 - 1) / 1 = n := by omega
    rw [e1]
    have him : 0 + n = xs.length := by omega
    have hiy : 0 + n = ys.length := by omega
    clear hx hy ht e0 e1
    generalize (0 : Nat) = i at him hiy ⊢
    induction n generalizing i with
    | zero =>
      have h1 : xs.drop i = [] := List.drop_of_length_le (by omega)
      have h2 : ys.drop i = [] := List.drop_of_length_le (by omega)
      rw [h1, h2]
      simp
    | succ m ih =>
      have hxi : i < xs.length := by omega
      have hyi : i < ys.length := by omega
      have px := run_part_one (P := P) w e .u8 he (xs.map B) i (B xs[i]) (by simp [hxi])
      have py := run_part_one (P := P) w e .u8 he (ys.map B) i (B ys[i]) (by simp [hyi])
      have he2 := hin xs[i] ys[i]
      simp only [List.range'_succ, List.forIn_cons, Nat.mul_one, Sem.run_bind, px, py, Result.andThen_ok, he2, Sem.run_ite]
      rw [List.drop_eq_getElem_cons hxi, List.drop_eq_getElem_cons hyi]
      cases hb : (xs[i] == ys[i]) with
      | true =>
        simp only [Bool.not_true, Bool.false_eq_true, if_false, Sem.run_pure, Result.andThen_ok, List.cons_beq_cons, hb, Bool.true_and]
        have := ih (i + 1) (by omega) (by omega)
        simp only [Nat.mul_one] at this
        exact this
      | false =>
        simp only [Bool.not_false, if_true, Sem.run_pure, Result.andThen_ok, List.cons_beq_cons, hb, Bool.false_and]
/-- '==' of two arrays of bytes. -/
theorem run_eql_bytes (w : World) (t e : TypeId) (n : Nat) (ht : P.underlying t = some (.array n e)) (he : P.underlying e = some (.int .u8)) (hs : (P.info? e).map (·.size) = some 1) (xs ys : List UInt8) (hx : xs.length = n) (hy : ys.length = n) :
    (binOp .eql t (.agg (xs.map B).toArray) (.agg (ys.map B).toArray)).run P w = .ok (.bool (xs == ys)) w := by
  rw [run_eql_struct, run_equalIn_arr (P := P) w 9999 t e n ht he hs xs ys hx hy (fun a b => by rw [run_equalIn_int (P := P) w 9998 e .u8 .u8 (bv a) (bv b) he, bv_beq])]
  rfl
theorem run_neq_bytes (w : World) (t e : TypeId) (n : Nat) (ht : P.underlying t = some (.array n e)) (he : P.underlying e = some (.int .u8)) (hs : (P.info? e).map (·.size) = some 1) (xs ys : List UInt8) (hx : xs.length = n) (hy : ys.length = n) :
    (binOp .neq t (.agg (xs.map B).toArray) (.agg (ys.map B).toArray)).run P w = .ok (.bool (!(xs == ys))) w := by
  rw [run_neq_struct, run_equalIn_arr (P := P) w 9999 t e n ht he hs xs ys hx hy (fun a b => by rw [run_equalIn_int (P := P) w 9998 e .u8 .u8 (bv a) (bv b) he, bv_beq])]
  rfl
end
/-- Two digests held against each other, as an operation: '==', '!='. -/
theorem exec_eql_dig (w : World) {o : Oper} {a : Act} {x y : Operand} {yt : TypeId} (ho : o.op = .binOp .eql 115 x y yt) (xs ys : List UInt8) (hxe : a.eval x = .agg (xs.map B).toArray) (hye : a.eval y = .agg (ys.map B).toArray) (hx : xs.length = 32) (hy : ys.length = 32) :
    (execOp a.eval o).run Tryz.prog w = .ok (.value (.bool (xs == ys))) w := by
  have h1 : (eqGuard .eql 115 x y (.agg (xs.map B).toArray) (.agg (ys.map B).toArray)).run Tryz.prog w = .ok () w := run_eqGuard_agg (P := Tryz.prog) w .eql 115 x y _ _ (by kernel_rfl)
  simp only [execOp, ho, hxe, hye, Sem.run_bind, h1, Result.andThen_ok, run_eql_bytes (P := Tryz.prog) w 115 5 32 Tryz.underlying115 Tryz.underlying5 (by kernel_rfl) xs ys hx hy, Sem.run_pure]
theorem exec_neq_dig (w : World) {o : Oper} {a : Act} {x y : Operand} {yt : TypeId} (ho : o.op = .binOp .neq 115 x y yt) (xs ys : List UInt8) (hxe : a.eval x = .agg (xs.map B).toArray) (hye : a.eval y = .agg (ys.map B).toArray) (hx : xs.length = 32) (hy : ys.length = 32) :
    (execOp a.eval o).run Tryz.prog w = .ok (.value (.bool (!(xs == ys)))) w := by
  have h1 : (eqGuard .neq 115 x y (.agg (xs.map B).toArray) (.agg (ys.map B).toArray)).run Tryz.prog w = .ok () w := run_eqGuard_agg (P := Tryz.prog) w .neq 115 x y _ _ (by kernel_rfl)
  simp only [execOp, ho, hxe, hye, Sem.run_bind, h1, Result.andThen_ok, run_neq_bytes (P := Tryz.prog) w 115 5 32 Tryz.underlying115 Tryz.underlying5 (by kernel_rfl) xs ys hx hy, Sem.run_pure]
theorem wpList_eql_dig {ops : Array Oper} {rest : List Oper} {o : Oper} {a : Act} {w : World} {Q : Exit → Act → World → Prop} (hgd : o.guard = none) (x y : Operand) (yt : TypeId) (ho : o.op = .binOp .eql 115 x y yt)
    (xs ys : List UInt8) (hxe : a.eval x = .agg (xs.map B).toArray) (hye : a.eval y = .agg (ys.map B).toArray) (hx : xs.length = 32) (hy : ys.length = 32)
    (h : wpList Tryz.prog ops Q rest (a.put o.dst (.bool (xs == ys))) w) : wpList Tryz.prog ops Q (o :: rest) a w :=
  wpList_run _ ho hgd _ (exec_eql_dig w ho xs ys hxe hye hx hy) h
theorem wpList_neq_dig {ops : Array Oper} {rest : List Oper} {o : Oper} {a : Act} {w : World} {Q : Exit → Act → World → Prop} (hgd : o.guard = none) (x y : Operand) (yt : TypeId) (ho : o.op = .binOp .neq 115 x y yt)
    (xs ys : List UInt8) (hxe : a.eval x = .agg (xs.map B).toArray) (hye : a.eval y = .agg (ys.map B).toArray) (hx : xs.length = 32) (hy : ys.length = 32)
    (h : wpList Tryz.prog ops Q rest (a.put o.dst (.bool (!(xs == ys)))) w) : wpList Tryz.prog ops Q (o :: rest) a w :=
  wpList_run _ ho hgd _ (exec_neq_dig w ho xs ys hxe hye hx hy) h
end Go.Proofs.YtamdhaoglapnnaaGreatDoor
end

section
/- The walks of digest.Less and of the reference's Less. -/
namespace Go.Proofs.YtamdhaoglapnnaaGreatDoor
open Go.RowKit

def lessS (a b : List UInt8) : Bool := Op.bytesLess a b
theorem lessS_self (a : List UInt8) : lessS a a = false := by
  unfold lessS
  induction a with
  | nil => rfl
  | cons x a ih => simp [Op.bytesLess, ih]

set_option maxRecDepth 100000 in
set_option maxHeartbeats 1000000 in
theorem less_any (a b : List UInt8) (ha : a.length = 32) (hb : b.length = 32) (w : World) :
    Calls Tryz.prog 238 #[.agg (a.map B).toArray, .agg (b.map B).toArray] w fun e w' => e = .returned (.bool (lessS a b)) ∧ Below w.heap.size w w' := by
  have hsa : (Tryz.prog.info? 115).map (·.size) = some (a.map B).length := by rw [List.length_map, ha]; kernel_rfl
  have hsb : (Tryz.prog.info? 115).map (·.size) = some (b.map B).length := by rw [List.length_map, hb]; kernel_rfl
  replace hsa := Lib.hid hsa
  replace hsb := Lib.hid hsb
  replace ha := Lib.hid ha
  replace hb := Lib.hid hb
  go_enter Tryz.func238, Tryz.ntmps238
  go_wp2_with (first
    | (refine wpList_load_blk rfl 115 (.tmp 2) rfl w.heap.size rfl 115 (a.map B) ((Blk.new_at rfl).alloc _) _ Tryz.underlying115 rfl hsa.out ?_)
    | (refine wpList_load_blk rfl 115 (.tmp 3) rfl (w.heap.size + 1) rfl 115 (b.map B) (Blk.new_at (by simp)) _ Tryz.underlying115 rfl hsb.out ?_)
    | (refine wpList_eql_dig rfl (.tmp 5) (.tmp 6) _ rfl a b rfl rfl ha.out hb.out ?_))
  · go_ret
    refine ⟨?_, ((Below.refl _ _).alloc (Nat.le_refl _) _).alloc (by simp) _⟩
    have : a = b := by simpa using ‹(a == b) = true›
    rw [this, lessS_self]
    rfl
  · go_frame
    have hB1 : Blk ((w.alloc (.cells (a.map B).toArray 115)).alloc (.cells (b.map B).toArray 115)) w.heap.size 115 (a.map B) := (Blk.new_at rfl).alloc _
    have hB2 : Blk ((w.alloc (.cells (a.map B).toArray 115)).alloc (.cells (b.map B).toArray 115)) (w.heap.size + 1) 115 (b.map B) := Blk.new_at (by simp)
    have hbl : Below w.heap.size w ((w.alloc (.cells (a.map B).toArray 115)).alloc (.cells (b.map B).toArray 115)) := ((Below.refl _ _).alloc (Nat.le_refl _) _).alloc (by simp) _
    generalize (w.alloc (.cells (a.map B).toArray 115)).alloc (.cells (b.map B).toArray 115) = w1 at hB1 hB2 hbl ⊢
    refine wp_region_quiet_lit (by kernel_rfl) (by kernel_rfl) ?_
    repeat (first
      | (refine wpQuiet_to_string (ok := fun _ => True) 49 9 (.tmp 8) rfl rfl 5 Tryz.underlying49 Tryz.underlying5 Tryz.underlying9 (some ⟨w.heap.size, 0, none⟩) a 32 (by rw [ha.out]; rfl) (fun w' hw => ?_) ?_
         · obtain ⟨n, rfl⟩ := hw
           exact Rd.of_blk (r := []) (hB1.drewN n) (by simp) trivial
         go_frame)
      | (refine wpQuiet_to_string (ok := fun _ => True) 49 9 (.tmp 10) rfl rfl 5 Tryz.underlying49 Tryz.underlying5 Tryz.underlying9 (some ⟨w.heap.size + 1, 0, none⟩) b 32 (by rw [hb.out]; rfl) (fun w' hw => ?_) ?_
         · obtain ⟨n, rfl⟩ := hw
           exact Rd.of_blk (r := []) (hB2.drewN n) (by simp) trivial
         go_frame)
      | go_big_quiet_step (fail))
    refine wpQuiet_nil ?_
    rintro _ ⟨nq, rfl⟩
    go_wp2
    go_ret
    exact ⟨rfl, below_drewN hbl nq⟩

theorem lessS_diff : ∀ (k : Nat) (a b : List UInt8), a.take k = b.take k → k < a.length → k < b.length → a.getD k 0 ≠ b.getD k 0 → lessS a b = decide (bv (a.getD k 0) < bv (b.getD k 0))
  | 0, x :: a, y :: b, _, _, _, hne => by
    have h1 : (x == y) = false := by rw [beq_eq_false_iff_ne]; simpa using hne
    have h2 : decide (bv x < bv y) = decide (x < y) := by
      rw [Bool.eq_iff_iff, decide_eq_true_iff, decide_eq_true_iff, UInt8.lt_iff_toNat_lt]
      unfold bv; omega
    simp [lessS, Op.bytesLess, h1, h2]
  | k + 1, x :: a, y :: b, ht, ha, hb, hne => by
    simp only [List.take_succ_cons, List.cons.injEq] at ht
    have := lessS_diff k a b ht.2 (by simpa using ha) (by simpa using hb) (by simpa using hne)
    have hxy : ¬ x < y := by rw [ht.1]; exact UInt8.lt_irrefl _
    simp only [List.getD_cons_succ]
    rw [← this]
    unfold lessS
    rw [Op.bytesLess, ht.1]
    simp
theorem take_more {a b : List UInt8} {k : Nat} (h : a.take k = b.take k) (ha : k < a.length) (hb : k < b.length) (he : a.getD k 0 = b.getD k 0) : a.take (k + 1) = b.take (k + 1) := by
  rw [List.take_succ_eq_append_getElem ha, List.take_succ_eq_append_getElem hb, h]
  simp [ha, hb] at he
  rw [he]

end Go.Proofs.YtamdhaoglapnnaaGreatDoor
end

section
/- The walk of digest.Parse. -/
namespace Go.Proofs.YtamdhaoglapnnaaGreatDoor
open Go.RowKit

theorem pr_drewN {w wr : World} {l : List UInt8} {k : Nat} (h : PR w l k wr) (n : Nat) : PR w l k (wr.drewN n) := ⟨h.1, h.2.1.drewN n, h.2.2.1.drewN n, below_drewN h.2.2.2 n⟩

set_option maxRecDepth 100000 in
set_option maxHeartbeats 2000000 in
theorem parse_any (l : List UInt8) (w : World) :
    Calls Tryz.prog 150 #[.string ⟨l.toArray⟩] w fun e w' => e = .returned (.tuple #[.agg ((pd l).map B).toArray, .bool (pok l)]) ∧ Below w.heap.size w w' := by
  have hz := (zero_of_info zeros32).1
  have hsz : (⟨l.toArray⟩ : ByteArray).size = l.length := by simp [ByteArray.size]
  obtain ⟨n, hn⟩ : ∃ n, n = l.length := ⟨_, rfl⟩
  rw [← hn] at hsz
  by_cases h64 : n = 64
  · have hl64 : l.length = 64 := by omega
    have hb : (((n : Nat) : Int) != 64) = false := by rw [bne_eq_false_iff_eq]; omega
    have hge : 64 ≤ n := by omega
    have hle64 : n ≤ 64 := by omega
    replace hn := Lib.hid hn
    replace h64 := Lib.hid h64
    replace hl64 := Lib.hid hl64
    go_enter Tryz.func150, Tryz.ntmps150
    go_wp2
    go_loopw [13] (fun i wr => ∃ k : Nat, k ≤ 64 ∧ i = .int .i64 (k : Int) ∧ PR w l k wr) (fun i _ => 64 - (intOf i).toNat)
    case atStart => exact ⟨0, by omega, rfl, fun _ h => absurd h (by omega), (Blk.new_at rfl).alloc _, Blk.new_at (cs := zero32) (by simp), ((Below.refl _ _).alloc (Nat.le_refl _) _).alloc (by simp) _⟩
    case round =>
      obtain ⟨k, hk, rfl, hP⟩ := hrel
      by_cases hlt : k < 64
      · have hkl : k < l.length := by rw [hl64.out]; exact hlt
        obtain ⟨c, hc⟩ : ∃ c, c = l.getD k 0 := ⟨_, rfl⟩
        have hidx := index_str l k hkl
        rw [← hc] at hidx
        obtain ⟨wo, rfl⟩ : ∃ wo : World, wo = wr := ⟨_, rfl⟩
        replace hc := Lib.hid hc
        replace hkl := Lib.hid hkl
        have hkn : k < n := by omega
        go_wp2
        go_loopw [6] (fun i wr => ∃ m : Nat, m ≤ 16 ∧ i = .int .i64 (m : Int) ∧ Hid (∀ j, j < m → hexD j ≠ c) ∧ PR w l k wr) (fun i _ => 16 - (intOf i).toNat)
        case atStart => exact ⟨0, by omega, rfl, fun _ h => absurd h (by omega), hP⟩
        case round =>
          clear hP
          obtain ⟨m, hm, rfl, hno, hP⟩ := hrel
          by_cases hm16 : m < 16
          · have hx := index_hex64 m hm16
            simp only [digitsB, hexDigits] at hx
            have hdec : decide ((m : Int) < 16) = true := by rw [decide_eq_true_iff]; omega
            by_cases heq : hexD m = c
            · have hbb : (bv (hexD m) != bv c) = false := by rw [heq]; simp
              have hdv : digitV c = m := digitV_found c m hm16 heq
              have hb16 : (((m : Nat) : Int) == 16) = false := by rw [beq_eq_false_iff_ne]; omega
              replace hdv := Lib.hid hdv
              replace heq := Lib.hid heq
              go_wp2
              go_quiet (fail)
              replace hP := pr_drewN hP nq
              generalize wr.drewN nq = wr2 at hP ⊢
              obtain ⟨x, hxx⟩ : ∃ x, x = (dAfter l k).getD (k / 2) 0 := ⟨_, rfl⟩
              have hcell : wr2.cell? ⟨w.heap.size + 1, k / 2, none⟩ = some (B x) := by
                rw [hP.2.2.1.cell, hxx]
                have : k / 2 < (dAfter l k).length := by rw [dAfter_length]; omega
                simp [this]
              have hfz := hP.2.2.1.frozen (k / 2)
              replace hxx := Lib.hid hxx
              go_wp2
              go_roundw
              case rel =>
                refine ⟨k + 1, by omega, by go_num, ?_, hP.2.1.far (by simp) _, ?_, hP.2.2.2.setCell (by simp) _⟩
                · intro j hj
                  rcases Nat.lt_or_ge j k with h | h
                  · exact hP.1 j h
                  · obtain rfl : j = k := by omega
                    rw [← hc.out, hdv.out]; exact hm16
                · have h3 := hP.2.2.1.set_ (k / 2) (B (x * 16 + UInt8.ofNat m))
                  rw [← List.map_set] at h3
                  show Blk _ _ _ ((dAfter l (k + 1)).map B)
                  rw [dAfter, ← hxx.out, ← hc.out, hdv.out, step_or x m hm16]
                  exact h3
              case measure => simp [intOf]; omega
            · have hbb : (bv (hexD m) != bv c) = true := by rw [bne_iff_ne]; exact fun e => heq (bv_inj e)
              replace heq := Lib.hid heq
              go_wp2
              go_quiet (fail)
              go_wp2
              go_roundw
              case rel =>
                refine ⟨m + 1, by omega, by go_num, ?_, pr_drewN hP nq⟩
                intro j hj
                rcases Nat.lt_or_ge j m with h | h
                · exact hno.out j h
                · obtain rfl : j = m := by omega
                  exact heq.out
              case measure => simp [intOf]; omega
          · have hm2 : 16 ≤ m := by omega
            have hdec : decide ((m : Int) < 16) = false := by rw [decide_eq_false_iff_not]; omega
            have hb16 : (((m : Nat) : Int) == 16) = true := by rw [beq_iff_eq]; omega
            have hdv : digitV c = 16 := digitV_none c (fun j hj => hno.out j (by omega))
            have hp : pok l = false := pok_not k hkl.out (by rw [← hc.out, hdv]; omega)
            have hd : pd l = List.replicate 32 0 := by unfold pd; rw [hp]; rfl
            replace hp := Lib.hid hp
            replace hd := Lib.hid hd
            clear hdv
            go_wp2
            go_quiet (fail)
            replace hP := pr_drewN hP nq
            generalize wr.drewN nq = wr2 at hP ⊢
            go_wp2_with (first
              | (refine wpList_run (.build 115 #[]) rfl rfl (.agg zero32.toArray) (by kernel_rfl) ?_)
              | (refine wpList_store_blk rfl 115 (.tmp 2) (.tmp 30) rfl w.heap.size zero32 rfl rfl 115 zero32 hP.2.1 rfl (by kernel_rfl) (all_B (List.replicate 32 0)) ?_))
            refine ret_blk2 Tryz.results150 w.heap.size 115 zero32 _ (.bool false) rfl rfl (hP.2.1.setRow_same _) Tryz.underlying115 rfl (by kernel_rfl) rfl ?_
            exact ⟨by rw [hp.out, hd.out]; rfl, below_setRow hP.2.2.2 (Nat.le_refl _) _⟩
      · obtain rfl : k = 64 := by omega
        have hp : pok l = true := pok_of hl64.out hP.1
        have hd : pd l = dAfter l 64 := by unfold pd; rw [hp]; rfl
        have hB := hP.2.2.1
        rw [← hd] at hB
        have hsz2 : (Tryz.prog.info? 115).map (·.size) = some ((pd l).map B).length := by rw [List.length_map, pd_length]; kernel_rfl
        have hlen2 : zero32.length = ((pd l).map B).length := by rw [List.length_map, pd_length]; rfl
        replace hp := Lib.hid hp
        replace hd := Lib.hid hd
        replace hsz2 := Lib.hid hsz2
        replace hlen2 := Lib.hid hlen2
        go_wp2_with (first
          | (refine wpList_load_blk rfl 115 (.tmp 4) rfl (w.heap.size + 1) rfl 115 ((pd l).map B) hB _ Tryz.underlying115 rfl hsz2.out ?_)
          | (refine wpList_store_blk rfl 115 (.tmp 2) (.tmp 43) rfl w.heap.size ((pd l).map B) rfl rfl 115 zero32 hP.2.1 hlen2.out hsz2.out (all_B _) ?_))
        refine ret_blk2 Tryz.results150 w.heap.size 115 ((pd l).map B) _ (.bool true) rfl rfl (hP.2.1.setRow_same _) Tryz.underlying115 rfl hsz2.out rfl ?_
        exact ⟨by rw [hp.out], below_setRow hP.2.2.2 (Nat.le_refl _) _⟩
  · have hb : (((n : Nat) : Int) != 64) = true := by rw [bne_iff_ne]; omega
    have hp : pok l = false := pok_len (by omega)
    have hd : pd l = List.replicate 32 0 := by unfold pd; rw [hp]; rfl
    rw [hp, hd]
    replace hn := Lib.hid hn
    clear hp hd
    go_enter Tryz.func150, Tryz.ntmps150
    go_wp2_with (first
      | (refine wpList_load_blk rfl 115 (.tmp 4) rfl (w.heap.size + 1) rfl 115 zero32 (Blk.new_at (by simp)) _ Tryz.underlying115 rfl (by kernel_rfl) ?_)
      | (refine wpList_store_blk rfl 115 (.tmp 2) (.tmp 10) rfl w.heap.size zero32 rfl rfl 115 zero32 ((Blk.new_at rfl).alloc _) rfl (by kernel_rfl) (all_B (List.replicate 32 0)) ?_))
    refine ret_blk2 Tryz.results150 w.heap.size 115 zero32 _ (.bool false) rfl rfl (((Blk.new_at rfl).alloc _).setRow_same _) Tryz.underlying115 rfl (by kernel_rfl) rfl ?_
    exact ⟨rfl, below_setRow (((Below.refl _ _).alloc (Nat.le_refl _) _).alloc (by simp) _) (Nat.le_refl _) _⟩
end Go.Proofs.YtamdhaoglapnnaaGreatDoor
end

section
/- The walk of the reference's Hex. -/
namespace Go.Proofs.YtamdhaoglapnnaaGreatDoor
open Go.RowKit

theorem slice_hex (n : Nat) (hn : n < 16) (w : World) : (Instr.sliceAt 9 (.string ⟨#[48, 49, 50, 51, 52, 53, 54, 55, 56, 57, 97, 98, 99, 100, 101, 102]⟩) (some (.int .i64 (n : Int))) (some (.int .i64 ((n : Int) + 1))) none).run Tryz.prog w = .ok (.string ⟨[hexD n].toArray⟩) w := by
  obtain rfl | rfl | rfl | rfl | rfl | rfl | rfl | rfl | rfl | rfl | rfl | rfl | rfl | rfl | rfl | rfl : n = 0 ∨ n = 1 ∨ n = 2 ∨ n = 3 ∨ n = 4 ∨ n = 5 ∨ n = 6 ∨ n = 7 ∨ n = 8 ∨ n = 9 ∨ n = 10 ∨ n = 11 ∨ n = 12 ∨ n = 13 ∨ n = 14 ∨ n = 15 := by omega
  all_goals kernel_rfl
theorem wpQuiet_slice_hex {ops : Array Oper} {rest : List Oper} {o : Oper} {a : Act} {C : World → Prop} {Q : Act → Prop} (x y : Operand) (ho : o.op = .slice 9 (.const (.string ⟨#[48, 49, 50, 51, 52, 53, 54, 55, 56, 57, 97, 98, 99, 100, 101, 102]⟩)) (some x) (some y) none) (hgd : o.guard = none)
    (n : Nat) (hn : n < 16) (hx : a.eval x = .int .i64 (n : Int)) (hy : a.eval y = .int .i64 ((n : Int) + 1)) (h : wpQuiet Tryz.prog ops C Q rest (a.put o.dst (.string ⟨[hexD n].toArray⟩))) : wpQuiet Tryz.prog ops C Q (o :: rest) a := by
  refine wpQuiet_run _ ho hgd _ (fun w _ => ?_) h
  have e : ∀ v, a.eval (.const v) = v := fun _ => rfl
  simp only [execOp, ho, e, hx, hy, Option.map_some, Option.map_none, Sem.run_bind, slice_hex n hn w, Result.andThen_ok, Sem.run_pure]

theorem str_app (a b : List UInt8) : (⟨a.toArray⟩ ++ ⟨b.toArray⟩ : ByteArray) = ⟨(a ++ b).toArray⟩ := by
  apply ByteArray.ext
  simp

end Go.Proofs.YtamdhaoglapnnaaGreatDoor
end
end
section
/- The plain mathematics of the digest: blocks, words, rounds. No program in sight. -/
namespace Go.Proofs.YtamdhaoglapnnaaGreatDoor

def be32 (a b c d : UInt8) : UInt32 := shl (b2w a) 24 ||| shl (b2w b) 16 ||| shl (b2w c) 8 ||| b2w d
def sig0 (x : UInt32) : UInt32 := rotr x 7 ^^^ rotr x 18 ^^^ shr x 3
def sig1 (x : UInt32) : UInt32 := rotr x 17 ^^^ rotr x 19 ^^^ shr x 10
def Sig1 (e : UInt32) : UInt32 := rotr e 6 ^^^ rotr e 11 ^^^ rotr e 25
def Sig0 (a : UInt32) : UInt32 := rotr a 2 ^^^ rotr a 13 ^^^ rotr a 22
def chF (e f g : UInt32) : UInt32 := (e &&& f) ^^^ (~~~e &&& g)
def majF (a b c : UInt32) : UInt32 := (a &&& b) ^^^ (a &&& c) ^^^ (b &&& c)

/-- The i-th of the block's sixteen words. -/
def word16 (blk : List UInt8) (i : Nat) : UInt32 := be32 (blk.getD (4 * i) 0) (blk.getD (4 * i + 1) 0) (blk.getD (4 * i + 2) 0) (blk.getD (4 * i + 3) 0)
def nextW (ws : List UInt32) (i : Nat) : UInt32 := ws.getD (i - 16) 0 + sig0 (ws.getD (i - 15) 0) + ws.getD (i - 7) 0 + sig1 (ws.getD (i - 2) 0)
/-- The first n words of a block's row of 64. -/
def sched (blk : List UInt8) : Nat → List UInt32
  | 0 => []
  | n + 1 => sched blk n ++ [if n < 16 then word16 blk n else nextW (sched blk n) n]
theorem sched_length (blk : List UInt8) (n : Nat) : (sched blk n).length = n := by
  induction n with
  | zero => rfl
  | succ n ih => simp [sched, ih]
theorem sched_lo (blk : List UInt8) (n : Nat) (h : n < 16) : sched blk (n + 1) = sched blk n ++ [word16 blk n] := by simp [sched, h]
theorem sched_hi (blk : List UInt8) (n : Nat) (h : 16 ≤ n) : sched blk (n + 1) = sched blk n ++ [nextW (sched blk n) n] := by
  have : ¬ n < 16 := by omega
  simp [sched, this]

/-- The rounds' words. -/
def keysL : List UInt32 := [
  0x428a2f98, 0x71374491, 0xb5c0fbcf, 0xe9b5dba5, 0x3956c25b, 0x59f111f1, 0x923f82a4, 0xab1c5ed5,
  0xd807aa98, 0x12835b01, 0x243185be, 0x550c7dc3, 0x72be5d74, 0x80deb1fe, 0x9bdc06a7, 0xc19bf174,
  0xe49b69c1, 0xefbe4786, 0x0fc19dc6, 0x240ca1cc, 0x2de92c6f, 0x4a7484aa, 0x5cb0a9dc, 0x76f988da,
  0x983e5152, 0xa831c66d, 0xb00327c8, 0xbf597fc7, 0xc6e00bf3, 0xd5a79147, 0x06ca6351, 0x14292967,
  0x27b70a85, 0x2e1b2138, 0x4d2c6dfc, 0x53380d13, 0x650a7354, 0x766a0abb, 0x81c2c92e, 0x92722c85,
  0xa2bfe8a1, 0xa81a664b, 0xc24b8b70, 0xc76c51a3, 0xd192e819, 0xd6990624, 0xf40e3585, 0x106aa070,
  0x19a4c116, 0x1e376c08, 0x2748774c, 0x34b0bcb5, 0x391c0cb3, 0x4ed8aa4a, 0x5b9cca4f, 0x682e6ff3,
  0x748f82ee, 0x78a5636f, 0x84c87814, 0x8cc70208, 0x90befffa, 0xa4506ceb, 0xbef9a3f7, 0xc67178f2]

/-- What a digest grows in. -/
structure St where
  a : UInt32
  b : UInt32
  c : UInt32
  d : UInt32
  e : UInt32
  f : UInt32
  g : UInt32
  h : UInt32

def st0 : St := ⟨0x6a09e667, 0xbb67ae85, 0x3c6ef372, 0xa54ff53a, 0x510e527f, 0x9b05688c, 0x1f83d9ab, 0x5be0cd19⟩
def tOf (k w : UInt32) (s : St) : UInt32 := s.h + Sig1 s.e + chF s.e s.f s.g + k + w
def uOf (s : St) : UInt32 := Sig0 s.a + majF s.a s.b s.c
def rnd (k w : UInt32) (s : St) : St := ⟨tOf k w s + uOf s, s.a, s.b, s.c, s.d + tOf k w s, s.e, s.f, s.g⟩
def rnds (ws : List UInt32) (s : St) : Nat → St
  | 0 => s
  | n + 1 => rnd (keysL.getD n 0) (ws.getD n 0) (rnds ws s n)
def addS (v s : St) : St := ⟨v.a + s.a, v.b + s.b, v.c + s.c, v.d + s.d, v.e + s.e, v.f + s.f, v.g + s.g, v.h + s.h⟩
/-- The state behind one block more. -/
def mixS (s : St) (blk : List UInt8) : St := addS (rnds (sched blk 64) s 64) s

def St.list (s : St) : List UInt32 := [s.a, s.b, s.c, s.d, s.e, s.f, s.g, s.h]
def St.cells (s : St) : List Value := s.list.map W

end Go.Proofs.YtamdhaoglapnnaaGreatDoor
end
section
/- Rotations of 32-bit words: what bits.RotateLeft32, right and turn return. -/
namespace Go.Proofs.YtamdhaoglapnnaaGreatDoor
open Go.RowKit

theorem ret_int {k : IntKind} {a b : Int} (h : a = b) : Ending.returned (.int k a) = .returned (.int k b) := by rw [h]
theorem turn_val (x : UInt32) (k : Nat) :
    bits .or .u32 ((wv x) / 2 ^ k) ((wv x) * 2 ^ (32 - k) % 4294967296) = (wv (rotr x k)) := by
  rw [w_shr, w_shl_mod, w_or, rotr]
theorem or_comm32 (x y : Int) : bits .or .u32 x y = bits .or .u32 y x := by
  show IntKind.u32.wrap ((BitVec.ofInt 32 x ||| BitVec.ofInt 32 y).toNat : Int) = IntKind.u32.wrap ((BitVec.ofInt 32 y ||| BitVec.ofInt 32 x).toNat : Int)
  rw [BitVec.or_comm]
theorem neg31 (k : Nat) (hk : 0 < k) (hk2 : k < 32) : bits .and .u64 (IntKind.u64.wrap (-(k : Int))) 31 = ((32 - k : Nat) : Int) := by
  have : ∀ k : Fin 32, 0 < k.1 → bits .and .u64 (IntKind.u64.wrap (-(k.1 : Int))) 31 = ((32 - k.1 : Nat) : Int) := by decide
  exact this ⟨k, hk2⟩ hk

set_option maxHeartbeats 400000 in
theorem rot_any (x : UInt32) (k : Nat) (w : World) (hk : 0 < k) (hk2 : k < 32) :
    Calls Tryz.prog 329 #[.int .u32 (wv x), .int .i64 (-(k : Int))] w fun e w' => e = .returned (.int .u32 (wv (rotr x k))) ∧ w = w' := by
  have hn := neg31 k hk hk2
  go_enter Tryz.func329, Tryz.ntmps329
  go_wp2
  go_ret
  exact ⟨ret_int (by rw [or_comm32, show 32 - (32 - k) = k by omega, turn_val]), rfl⟩

set_option maxHeartbeats 400000 in
theorem right_any (x : UInt32) (k : Nat) (w : World) (hk : 0 < k) (hk2 : k < 32) :
    Calls Tryz.prog 286 #[.int .u32 (wv x), .int .i64 (k : Int)] w fun e w' => e = .returned (.int .u32 (wv (rotr x k))) ∧ w = w' := by
  go_enter Tryz.func286, Tryz.ntmps286
  go_wp2_with (go_at_call 329; refine (rot_any x k _ hk hk2).mono ?_; rintro e w' ⟨rfl, rfl⟩)
  go_ret
  exact ⟨rfl, rfl⟩

theorem right_int (x : UInt32) (n : Int) (w : World) (hk : 0 < n) (hk2 : n < 32) :
    Calls Tryz.prog 286 #[.int .u32 (wv x), .int .i64 n] w fun e w' => e = .returned (.int .u32 (wv (rotr x n.toNat))) ∧ w = w' := by
  have := right_any x n.toNat w (by omega) (by omega)
  rwa [show ((n.toNat : Nat) : Int) = n by omega] at this

end Go.Proofs.YtamdhaoglapnnaaGreatDoor
end
