/- Joined: RfG, RfBd, RfPa. -/
import Derived.Test.YtlenmkemjaaaoaaDoorRjSp
import Derived.Test.YtlenmkemjaaaoaaDoorParseP
import Derived.Test.YtlenmkemjaaaoaaDoorRjQS
import Derived.Test.YtlenmkemjaaaoaaDoorRjLn
import Derived.Test.YtlenmkemjaaaoaaDoorRjCD
import Derived.WalkMore
section
/- What refs.Parse makes of a text, in plain words. -/
namespace Go.Proofs.YtlenmkemjaaaoaaDoor

def trimS (x : Str) : Str := Lib.trimSuffix x [10]
def lineOk (x : Str) : Bool := (splitW (trimS x)).tail.all pok
def lineBr (x : Str) : Br := ⟨(splitW (trimS x)).headD [], (splitW (trimS x)).tail.map pd⟩
def looseT (s : Str) : Tab := (linesOf s).map lineBr
def parseOk (s : Str) : Bool := (linesOf s).all lineOk && decide (mayE (looseT s) = 0) && decide (printS (looseT s) = s)

theorem trim_len (x : Str) : (trimS x).length ≤ x.length := by
  unfold trimS Lib.trimSuffix
  split
  · rw [List.length_take]; omega
  · exact Nat.le_refl _
theorem linesOf_cons_ne {r : Str} : linesOf r = [] → r = [] := by
  cases r with
  | nil => intro _; rfl
  | cons c r =>
    intro h
    rw [linesOf_c] at h
    split at h
    · cases h
    · split at h <;> cases h
theorem lines_len : ∀ s : Str, (linesOf s).length ≤ s.length
  | [] => Nat.le_refl _
  | c :: r => by
    have ih := lines_len r
    rw [linesOf_c]
    split
    · simp; omega
    · split
      · simp
      · rename_i l ls e
        rw [e] at ih
        simp at ih ⊢; omega
theorem lines_mem : ∀ s x, x ∈ linesOf s → x.length ≤ s.length
  | [], x, h => by cases h
  | c :: r, x, h => by
    have ih := lines_mem r
    rw [linesOf_c] at h
    split at h
    · rcases List.mem_cons.1 h with rfl | h
      · simp
      · have := ih x h; simp; omega
    · split at h
      · rcases List.mem_cons.1 h with rfl | h
        · simp
        · cases h
      · rename_i l ls e
        rw [e] at ih
        rcases List.mem_cons.1 h with rfl | h
        · have := ih l (by simp); simp; omega
        · have := ih x (by simp [h]); simp; omega
theorem split_mem : ∀ s x, x ∈ splitW s → x.length ≤ s.length
  | [], x, h => by
    rcases List.mem_cons.1 h with rfl | h
    · simp
    · cases h
  | c :: r, x, h => by
    have ih := split_mem r
    rw [splitW_c] at h
    split at h
    · rcases List.mem_cons.1 h with rfl | h
      · simp
      · have := ih x h; simp; omega
    · split at h
      · rcases List.mem_cons.1 h with rfl | h
        · simp
        · cases h
      · rename_i l ls e
        rw [e] at ih
        rcases List.mem_cons.1 h with rfl | h
        · have := ih l (by simp); simp; omega
        · have := ih x (by simp [h]); simp; omega
theorem lineBr_fit (x : Str) (hx : x.length ≤ 1073741824) : BFit (lineBr x) := by
  have h1 := trim_len x
  have h2 := split_len (trimS x)
  have h3 : (trimS x).count 32 ≤ (trimS x).length := List.count_le_length
  refine ⟨?_, ⟨?_, ?_⟩⟩
  · obtain ⟨l, ls, e⟩ := splitW_cons_ne (trimS x)
    have := split_mem (trimS x) l (by rw [e]; simp)
    show ((splitW (trimS x)).headD []).length ≤ _
    rw [e]
    simp only [List.headD_cons]; omega
  · show ((splitW (trimS x)).tail.map pd).length ≤ _
    rw [List.length_map, List.length_tail]; omega
  · intro d hd
    obtain ⟨p, _, rfl⟩ := List.mem_map.1 hd
    exact pd_length p
theorem looseT_fit (s : Str) (hs : s.length ≤ 1073741824) : TFit (looseT s) := by
  refine ⟨?_, ?_⟩
  · unfold looseT; rw [List.length_map]; have := lines_len s; omega
  · intro b hb
    obtain ⟨x, hx, rfl⟩ := List.mem_map.1 hb
    exact lineBr_fit x (Nat.le_trans (lines_mem s x hx) hs)
end Go.Proofs.YtlenmkemjaaaoaaDoor
end

section
/- A slice of one digest, laid out; stores of digests in boxes. -/
namespace Go.Proofs.YtlenmkemjaaaoaaDoor
open Go.RowKit
set_option maxRecDepth 100000 in
set_option maxHeartbeats 4000000 in
theorem build32 (a0 a1 a2 a3 a4 a5 a6 a7 a8 a9 a10 a11 a12 a13 a14 a15 a16 a17 a18 a19 a20 a21 a22 a23 a24 a25 a26 a27 a28 a29 a30 a31 : Value) (w : World) : (Instr.buildSlice 44 1 #[(0, .agg #[a0, a1, a2, a3, a4, a5, a6, a7, a8, a9, a10, a11, a12, a13, a14, a15, a16, a17, a18, a19, a20, a21, a22, a23, a24, a25, a26, a27, a28, a29, a30, a31])]).run Tryd.prog w = .ok (.slice (some ⟨w.heap.size, 0, none⟩) 1 1) (w.alloc (.cells #[a0, a1, a2, a3, a4, a5, a6, a7, a8, a9, a10, a11, a12, a13, a14, a15, a16, a17, a18, a19, a20, a21, a22, a23, a24, a25, a26, a27, a28, a29, a30, a31] 57)) := by kernel_rfl
theorem build_dig (l : List Value) (h : l.length = 32) (w : World) : (Instr.buildSlice 44 1 #[(0, .agg l.toArray)]).run Tryd.prog w = .ok (.slice (some ⟨w.heap.size, 0, none⟩) 1 1) (w.alloc (.cells l.toArray 57)) := by
  obtain ⟨a0, l, rfl⟩ := List.exists_cons_of_length_eq_add_one h
  replace h := Nat.succ.inj h
  obtain ⟨a1, l, rfl⟩ := List.exists_cons_of_length_eq_add_one h
  replace h := Nat.succ.inj h
  obtain ⟨a2, l, rfl⟩ := List.exists_cons_of_length_eq_add_one h
  replace h := Nat.succ.inj h
  obtain ⟨a3, l, rfl⟩ := List.exists_cons_of_length_eq_add_one h
  replace h := Nat.succ.inj h
  obtain ⟨a4, l, rfl⟩ := List.exists_cons_of_length_eq_add_one h
  replace h := Nat.succ.inj h
  obtain ⟨a5, l, rfl⟩ := List.exists_cons_of_length_eq_add_one h
  replace h := Nat.succ.inj h
  obtain ⟨a6, l, rfl⟩ := List.exists_cons_of_length_eq_add_one h
  replace h := Nat.succ.inj h
  obtain ⟨a7, l, rfl⟩ := List.exists_cons_of_length_eq_add_one h
  replace h := Nat.succ.inj h
  obtain ⟨a8, l, rfl⟩ := List.exists_cons_of_length_eq_add_one h
  replace h := Nat.succ.inj h
  obtain ⟨a9, l, rfl⟩ := List.exists_cons_of_length_eq_add_one h
  replace h := Nat.succ.inj h
  obtain ⟨a10, l, rfl⟩ := List.exists_cons_of_length_eq_add_one h
  replace h := Nat.succ.inj h
  obtain ⟨a11, l, rfl⟩ := List.exists_cons_of_length_eq_add_one h
  replace h := Nat.succ.inj h
  obtain ⟨a12, l, rfl⟩ := List.exists_cons_of_length_eq_add_one h
  replace h := Nat.succ.inj h
  obtain ⟨a13, l, rfl⟩ := List.exists_cons_of_length_eq_add_one h
  replace h := Nat.succ.inj h
  obtain ⟨a14, l, rfl⟩ := List.exists_cons_of_length_eq_add_one h
  replace h := Nat.succ.inj h
  obtain ⟨a15, l, rfl⟩ := List.exists_cons_of_length_eq_add_one h
  replace h := Nat.succ.inj h
  obtain ⟨a16, l, rfl⟩ := List.exists_cons_of_length_eq_add_one h
  replace h := Nat.succ.inj h
  obtain ⟨a17, l, rfl⟩ := List.exists_cons_of_length_eq_add_one h
  replace h := Nat.succ.inj h
  obtain ⟨a18, l, rfl⟩ := List.exists_cons_of_length_eq_add_one h
  replace h := Nat.succ.inj h
  obtain ⟨a19, l, rfl⟩ := List.exists_cons_of_length_eq_add_one h
  replace h := Nat.succ.inj h
  obtain ⟨a20, l, rfl⟩ := List.exists_cons_of_length_eq_add_one h
  replace h := Nat.succ.inj h
  obtain ⟨a21, l, rfl⟩ := List.exists_cons_of_length_eq_add_one h
  replace h := Nat.succ.inj h
  obtain ⟨a22, l, rfl⟩ := List.exists_cons_of_length_eq_add_one h
  replace h := Nat.succ.inj h
  obtain ⟨a23, l, rfl⟩ := List.exists_cons_of_length_eq_add_one h
  replace h := Nat.succ.inj h
  obtain ⟨a24, l, rfl⟩ := List.exists_cons_of_length_eq_add_one h
  replace h := Nat.succ.inj h
  obtain ⟨a25, l, rfl⟩ := List.exists_cons_of_length_eq_add_one h
  replace h := Nat.succ.inj h
  obtain ⟨a26, l, rfl⟩ := List.exists_cons_of_length_eq_add_one h
  replace h := Nat.succ.inj h
  obtain ⟨a27, l, rfl⟩ := List.exists_cons_of_length_eq_add_one h
  replace h := Nat.succ.inj h
  obtain ⟨a28, l, rfl⟩ := List.exists_cons_of_length_eq_add_one h
  replace h := Nat.succ.inj h
  obtain ⟨a29, l, rfl⟩ := List.exists_cons_of_length_eq_add_one h
  replace h := Nat.succ.inj h
  obtain ⟨a30, l, rfl⟩ := List.exists_cons_of_length_eq_add_one h
  replace h := Nat.succ.inj h
  obtain ⟨a31, l, rfl⟩ := List.exists_cons_of_length_eq_add_one h
  replace h := Nat.succ.inj h
  obtain rfl := List.eq_nil_of_length_eq_zero h
  exact build32 _ _ _ _ _ _ _ _ _ _ _ _ _ _ _ _ _ _ _ _ _ _ _ _ _ _ _ _ _ _ _ _ w
theorem wpList_build_dig {ops : Array Oper} {rest : List Oper} {o : Oper} {a : Act} {w : World} {Q : Exit → Act → World → Prop} (x : Operand) (ho : o.op = .buildSlice 44 1 #[(0, x)]) (hgd : o.guard = none) (l : List Value) (hl : l.length = 32)
    (hx : a.eval x = .agg l.toArray)
    (h : wpList Tryd.prog ops Q rest (a.put o.dst (.slice (some ⟨w.heap.size, 0, none⟩) 1 1)) (w.alloc (.cells l.toArray 57))) : wpList Tryd.prog ops Q (o :: rest) a w := by
  refine wpList_plain hgd fun K hK => ?_
  unfold Oper.wp
  have e : (#[(0, x)] : Array (Nat × Operand)).map (fun (i, x) => (i, a.eval x)) = #[(0, .agg l.toArray)] := by simp [hx]
  have hr : (execOp a.eval o).run Tryd.prog w = .ok (.value (.slice (some ⟨w.heap.size, 0, none⟩) 1 1)) (w.alloc (.cells l.toArray 57)) := by
    simp only [execOp, ho, e, Sem.run_bind, build_dig l hl, Result.andThen_ok, Sem.run_pure]
  rw [hr]
  exact hK _ _ h
/-! A list of operations in a round, by the plain walk. -/
def NoOut (Q : Exit → Act → World → Prop) (e : Exit) (a : Act) (w : World) : Prop := e ≠ .outgrown ∧ Q e a w
theorem NoOut.normal {Q : Exit → Act → World → Prop} {a : Act} {w : World} (h : Q .normal a w) : NoOut Q .normal a w := ⟨by simp, h⟩
theorem NoOut.out {Q : Exit → Act → World → Prop} : ¬ LetsOut (NoOut Q) := fun ⟨_, _, h, _⟩ => h rfl
theorem uponIn_mono {F : Fence} {n : Nat} {P : Program} {o : Oper} {a : Act} {K K' : Act → World → Prop} {Q Q' : Exit → Act → World → Prop} (hK : ∀ a w, K a w → K' a w) (hQ : ∀ e a w, Q e a w → Q' e a w) : ∀ r, o.uponIn F n P a K Q r → o.uponIn F n P a K' Q' r := by
  have hL : LetsOut Q → LetsOut Q' := fun ⟨a, w, h⟩ => ⟨a, w, hQ _ _ _ h⟩
  intro r h
  match r with
  | .ok (.value v) w' => exact hK _ _ h
  | .ok .skip w' => exact hK _ _ h
  | .ok (.defer d) w' => exact hK _ _ h
  | .ok (.enter f args) w' =>
    refine ⟨h.1, h.2.mono fun e w2 h2 => ?_⟩
    cases e with
    | returned v => exact hK _ _ h2
    | panicked c => exact hQ _ _ _ h2
    | outgrown => exact hL h2
  | .ok (.row row args) w' => exact ⟨h.1, h.2.mono fun v w2 h2 => hK _ _ h2⟩
  | .ok (.round l f tmps assign body) w' =>
    refine ⟨h.1, h.2.mono fun e w2 h2 => ?_⟩
    cases e with
    | returned v => exact hK _ _ h2
    | panicked c => exact hQ _ _ _ h2
    | outgrown => exact hL h2
  | .halt (.panic v) w' => exact hQ _ _ _ h
theorem wpListIn_mono {F : Fence} {n : Nat} {P : Program} {ops : Array Oper} {Q Q' : Exit → Act → World → Prop} (hQ : ∀ e a w, Q e a w → Q' e a w) : ∀ (L : List Oper) (a : Act) (w : World), wpListIn F n P ops Q L a w → wpListIn F n P ops Q' L a w
  | [], _, _, h => hQ _ _ _ h
  | o :: rest, a, w, h => by
    unfold wpListIn at h ⊢
    split at h
    · rename_i hw
      rw [if_pos hw]
      exact ⟨h.1, uponIn_mono (fun a w => wpListIn_mono hQ rest a w) hQ _ h.2⟩
    · rename_i hw
      rw [if_neg hw]
      exact ⟨h.1, wpListIn_mono hQ rest _ _ h.2⟩
theorem wpListIn_out {n l : Nat} {P : Program} {ops : Array Oper} {Q : Exit → Act → World → Prop} {L : List Oper} {a : Act} {w : World} (hL : L.all noDefer = true) (h : wpList P ops (NoOut Q) L a w) : wpListIn (Fence.wide.inRound l) n P ops Q L a w :=
  wpListIn_mono (fun _ _ _ h => h.2) L a w (wpListIn_wide NoOut.out L a w hL h)
end Go.Proofs.YtlenmkemjaaaoaaDoor
end

section
/- The walk of refs.Parse. -/
namespace Go.Proofs.YtlenmkemjaaaoaaDoor
open Go.RowKit Go.Shelf
attribute [local go_sem] Oper.semAt_some

set_option maxRecDepth 100000 in
set_option maxHeartbeats 4000000 in
theorem linesF_any (s : Str) (w : World) :
    Calls Tryd.prog 41 #[strV s] w fun e w' => e = .returned (.func (.func 70) #[] #[.pointer (some ⟨w.heap.size, 0, none⟩)]) ∧ w' = w.alloc (.cells #[strV s] 9) := by
  go_enter Tryd.func41, Tryd.ntmps41
  go_wp2
  go_ret
  exact ⟨rfl, rfl⟩
def ParsedTo (w : World) (s : Str) (e : Ending) (w' : World) : Prop :=
  Below w.heap.size w w' ∧ if parseOk s = true then ∃ v, e = .returned (.tuple #[v, .int .i64 0]) ∧ OwnTab w' w.heap.size v (looseT s) else e = .returned (.tuple #[.slice none 0 0, .int .i64 7])
/-- What holds between two lines. -/
structure PI (w : World) (pre : List Str) (W : World) : Prop where
  ok : pre.all lineOk = true
  bel : Below w.heap.size w W
  tab : ∃ v, Blk W w.heap.size 22 [v] ∧ OwnTab W w.heap.size v (pre.map lineBr)
structure PX (w : World) (s : Str) (W : World) : Prop where
  bad : parseOk s = false
  ne : s ≠ []
  bel : Below w.heap.size w W
  tab : Blk W w.heap.size 22 [.slice none 0 0]
/-- A table of one's own is kept where nothing of its kind is touched. -/
theorem OwnTab.calm {A B : World} {base : Nat} {v : Value} {T : Tab} {row : Option Nat} (h : OwnTab A base v T) (hg : A.grownBy B row) (hr : ∀ r, row = some r → ∀ t cs, Blk A r t cs → t ≠ 61 ∧ t ≠ 57) : OwnTab B base v T := by
  obtain ⟨vs, hl, ho, hh⟩ := h
  refine ⟨vs, hl, ⟨ho.1, ?_⟩, fun k b u h1 h2 => (hh k b u h1 h2).keep (fun b cs _ hB => hB.grown hg (fun e => (hr _ e.symm _ _ hB).2 rfl))⟩
  rcases ho.2 with e | ⟨g, cap, cur, rfl, hb, hg', hc⟩
  · exact .inl e
  · have hB : Blk A g 61 cur.toList := by unfold Blk; simpa using hg'
    exact .inr ⟨g, cap, cur, rfl, hb, (hg.block _ hB.lt (fun e => (hr _ e.symm _ _ hB).1 rfl)).trans hg', hc⟩
theorem not_cells {A : World} {r : Nat} {t : TypeId} {cs : List Value} (h : ∃ o : Obj, A.heap[r]? = some o ∧ o.isCells = false) : ¬ Blk A r t cs := fun hB => by
  obtain ⟨o, ho, hc⟩ := h
  unfold Blk at hB
  rw [hB] at ho
  cases ho; cases hc
theorem Blk.keepRow {A B : World} {g : Nat} {t : TypeId} {cs : List Value} {base : Nat} {T : TypeId} {sz n : Nat} {v : Value} {xs : List Value} (hB : Blk A g t cs) (ho : A.ownsRow base T sz v n xs) (hT : T ≠ t) (hg : A.grownBy B v.ownBlock) : Blk B g t cs :=
  hB.grown hg (fun e => by
    rcases ho.2 with ⟨rfl, _⟩ | ⟨g', cap, cur, rfl, _, hg', _⟩
    · cases e
    · have e' : g = g' := by simpa [Value.ownBlock] using e
      subst e'
      unfold Blk at hB
      rw [hg'] at hB
      injection hB with hB
      injection hB with _ ht
      exact hT ht)
theorem own_keepCell {A : World} {g i : Nat} {u : Value} {t : TypeId} {cs : List Value} {base : Nat} {T : TypeId} {sz n : Nat} {v : Value} {xs : List Value} (ho : A.ownsRow base T sz v n xs) (hB : Blk A g t cs) (hT : T ≠ t) : (A.setCell ⟨g, i, none⟩ u).ownsRow base T sz v n xs :=
  own_touch ho (Touch.setCell (L := [g]) u (by simp)) (fun b hb hm => by
    simp only [List.mem_singleton] at hm
    subst hm
    rcases ho.2 with ⟨rfl, _⟩ | ⟨g', cap, cur, rfl, _, hg', _⟩
    · cases hb
    · have e' : g' = b := by simpa [Value.ownBlock] using hb
      subst e'
      unfold Blk at hB
      rw [hg'] at hB
      injection hB with hB
      injection hB with _ ht
      exact hT ht)
theorem own_blk {A : World} {base : Nat} {T : TypeId} {sz n : Nat} {v : Value} {xs : List Value} (ho : A.ownsRow base T sz v n xs) : ∀ r, v.ownBlock = some r → ∃ cs, Blk A r T cs := by
  intro r e
  rcases ho.2 with ⟨rfl, _⟩ | ⟨g', cap, cur, rfl, _, hg', _⟩
  · cases e
  · have e' : g' = r := by simpa [Value.ownBlock] using e
    subst e'
    exact ⟨cur.toList, by unfold Blk; simpa using hg'⟩
theorem Blk.unique {A : World} {g : Nat} {t t' : TypeId} {cs cs' : List Value} (h : Blk A g t cs) (h' : Blk A g t' cs') : t = t' := by
  unfold Blk at h h'
  rw [h] at h'
  injection h' with h'
  injection h' with _ ht
theorem keeps_two {W Wf : World} {bl : Nat} {row : Option Nat} {t : TypeId} {cs : List Value} (hB : Blk W bl t cs) (hsz : W.heap.size ≤ Wf.heap.size) (hrow : ∀ r, row = some r → ∃ t cs, Blk W r t cs)
    (h : ∀ k, k < W.heap.size → k ≠ bl → some k ≠ row → Wf.heap[k]? = W.heap[k]?) : KeepsOthers W Wf := by
  refine ⟨hsz, fun k o hk ho => ?_⟩
  have hlt := (Array.getElem?_eq_some_iff.1 hk).1
  refine (h k hlt (fun e => ?_) (fun e => ?_)).trans hk
  · subst e; exact not_cells ⟨o, hk, ho⟩ hB
  · obtain ⟨t', cs', hr⟩ := hrow _ e.symm
    exact not_cells ⟨o, hk, ho⟩ hr
theorem setCell_at (w : World) (g i : Nat) (u : Value) {k : Nat} (h : k ≠ g) : (w.setCell ⟨g, i, none⟩ u).heap[k]? = w.heap[k]? := Below.heap_setCell w ⟨g, i, none⟩ u k h
theorem kept_blk {A B : World} {row : Option Nat} {B0 Bs g : Nat} {t : TypeId} {cs : List Value} (ht : t ≠ 9) (hB : Blk A g t cs) (hg : A.grownBy B row) (hr : ∀ r, row = some r → (r = Bs ∧ ∃ cs, Blk A Bs 9 cs) ∨ (B0 ≤ r ∧ ∃ o : Obj, A.heap[r]? = some o ∧ o.isCells = false)) : Blk B g t cs :=
  hB.grown hg (fun e => by
    rcases hr _ e.symm with ⟨rfl, cs', hS⟩ | ⟨_, h⟩
    · exact hB.ne_ hS ht rfl
    · exact not_cells h hB)
theorem kept_own {A B : World} {row : Option Nat} {B0 Bs : Nat} {base : Nat} {v : Value} {T : Tab} (h : OwnTab A base v T) (hg : A.grownBy B row) (hr : ∀ r, row = some r → (r = Bs ∧ ∃ cs, Blk A Bs 9 cs) ∨ (B0 ≤ r ∧ ∃ o : Obj, A.heap[r]? = some o ∧ o.isCells = false)) : OwnTab B base v T :=
  h.calm hg (fun r e t cs hB => by
    rcases hr r e with ⟨rfl, cs', hS⟩ | ⟨_, h⟩
    · have : t = 9 := by
        by_cases ht : t = 9
        · exact ht
        · exact absurd rfl (hB.ne_ hS ht)
      subst this
      exact ⟨by decide, by decide⟩
    · exact absurd hB (not_cells h))
/-- Below the beginning nothing is touched. -/
theorem kept_below {w A B : World} {row : Option Nat} {B0 Bs : Nat} (hb : Below w.heap.size w A) (hBs : w.heap.size ≤ Bs) (hB0 : w.heap.size ≤ B0) (hg : A.grownBy B row) (hr : ∀ r, row = some r → (r = Bs ∧ ∃ cs, Blk A Bs 9 cs) ∨ (B0 ≤ r ∧ ∃ o : Obj, A.heap[r]? = some o ∧ o.isCells = false)) : Below w.heap.size w B :=
  hb.grown hg hb.size (fun k e => by
    rcases hr _ e with ⟨rfl, _⟩ | ⟨h, _⟩
    · exact hBs
    · omega)
theorem PI.calm {w : World} {B0 Bs : Nat} (hBs : w.heap.size ≤ Bs) (hB0 : w.heap.size ≤ B0) : Calm B0 Bs (PI w) := by
  rintro s A B row ⟨h1, h2, v, h3, h4⟩ hg hr
  exact ⟨h1, kept_below h2 hBs hB0 hg hr, v, kept_blk (by decide) h3 hg hr, kept_own h4 hg hr⟩
theorem PX.calm {w : World} {B0 Bs : Nat} {t : Str} {c : Code} (hBs : w.heap.size ≤ Bs) (hB0 : w.heap.size ≤ B0) : Calm B0 Bs (fun _ W => c = .exit 0 ∧ PX w t W) := by
  rintro s A B row ⟨h0, h1, h2, h3, h4⟩ hg hr
  exact ⟨h0, h1, h2, kept_below h3 hBs hB0 hg hr, kept_blk (by decide) h4 hg hr⟩
set_option maxRecDepth 100000 in
set_option maxHeartbeats 4000000 in
theorem fparse_any (s : Str) (w : World) (hs : s.length ≤ 1073741824) :
    Calls Tryd.prog 17 #[strV s] w (ParsedTo w s) := by
  have hlf : Hid (∀ w, Calls Tryd.prog 41 #[.string ⟨s.toArray⟩] w fun e w' => e = .returned (.func (.func 70) #[] #[.pointer (some ⟨w.heap.size, 0, none⟩)]) ∧ w' = w.alloc (.cells #[.string ⟨s.toArray⟩] 9)) := Lib.hid (linesF_any s)
  have hfr := (Below.refl w.heap.size w).alloc (Nat.le_refl _) (Obj.cells #[Value.slice none 0 0] 22)
  have hB1 : Blk (w.alloc (Obj.cells #[Value.slice none 0 0] 22)) w.heap.size 22 [.slice none 0 0] := Blk.new_at rfl
  have hsz1 : (w.alloc (Obj.cells #[Value.slice none 0 0] 22)).heap.size = w.heap.size + 1 := by simp
  have hsl : (⟨s.toArray⟩ : ByteArray).size = s.length := strLn s
  unfold strV
  refine calls_of_wp_marks Tryd.func17 rfl ?_
  simp only [Tryd.ntmps17, List.size_toArray, List.length_cons, List.length_nil, Nat.reduceAdd, Nat.reduceSub, Array.replicate_succ, Array.replicate_zero, List.push_toArray, List.append_toArray, List.nil_append, List.cons_append]
  go_wp2
  go_step3
  go_wp2
  go_step3
  go_wp2_with (first
    | (go_at_call 41; (with_reducible refine (hlf.out _).mono ?_); rintro e w2 ⟨rfl, rfl⟩))
  have hB2 := hB1.alloc (Obj.cells #[Value.string ⟨s.toArray⟩] 9)
  have hS2 : Blk ((w.alloc (Obj.cells #[Value.slice none 0 0] 22)).alloc (Obj.cells #[Value.string ⟨s.toArray⟩] 9)) (w.heap.size + 1) 9 [strV s] := Blk.new_at (by simp)
  have hb2 := hfr.alloc (by simp) (Obj.cells #[Value.string ⟨s.toArray⟩] 9)
  have hs32 : s.length ≤ 4294967296 := by omega
  clear hB1 hfr hlf
  generalize hW : ((w.alloc (Obj.cells #[Value.slice none 0 0] 22)).alloc (Obj.cells #[Value.string ⟨s.toArray⟩] 9)) = w2 at hB2 hS2 hb2 ⊢
  have hsz2 : w.heap.size ≤ w2.heap.size := hb2.size
  clear hW hsz1
  refine wp_range_lines (w.heap.size + 1) s hs32 rfl rfl hS2 (PI w) (fun c _ W => c = .exit 0 ∧ PX w s W) (PI.calm (by omega) hsz2) (fun _ => PX.calm (by omega) hsz2) ⟨rfl, hb2, _, hB2, OwnTab.nil⟩ (fun x => ?a1) ?assign ?body ?done ?stop
  case a1 => exact { tmps := #[Value.string ⟨s.toArray⟩, undef, Value.slice none 0 0, Value.int IntKind.i64 0, Value.pointer (some ⟨w.heap.size, 0, none⟩), strV x, undef, undef, undef, undef, undef, undef,
              undef, undef, Value.string ⟨s.toArray⟩, Value.func (.func 70) #[] #[.pointer (some ⟨w.heap.size + 1, 0, none⟩)], strV x, undef, undef, undef, undef, undef, undef, undef,
              undef, undef, undef, undef, undef, undef, undef, undef, undef, undef, undef, undef, undef, undef, undef, undef, undef, undef,
              undef, undef, undef, undef, undef, undef, undef, undef, undef, undef, undef, undef, undef, undef, undef, undef, undef, undef, undef, undef], defers := [] }
  case assign =>
    intro l x W K hK
    unfold strV
    gi_wp2
    unfold strV at hK
    exact hK
  case body =>
    rintro l pre x W ⟨hok, hb, v, hB, hO⟩ hxl ⟨rst, hlo⟩
    dsimp only
    clear hB2 hS2 hb2
    have hx32 : x.length ≤ 9223372036854775807 := by omega
    have htl := trim_len x
    obtain ⟨t, ht⟩ : ∃ t, t = trimS x := ⟨_, rfl⟩
    have htr : Hid (Calls Tryd.prog 43 #[.string ⟨x.toArray⟩, .string ⟨#[10]⟩] W fun e w' => e = .returned (.string ⟨t.toArray⟩) ∧ w' = W) := Lib.hid (by
      rw [ht]; exact Tryd.strings_TrimSuffix ⟨x.toArray⟩ ⟨#[10]⟩ W (by rw [strLn]; omega))
    rw [← ht] at htl
    have hsp := Lib.hid (split_any t W (by omega))
    obtain ⟨n0, ns, hn0⟩ := splitW_cons_ne t
    rw [hn0] at hsp
    have hspl := split_len t
    have hspc : t.count 32 ≤ t.length := List.count_le_length
    have hspm : ∀ p ∈ n0 :: ns, p.length ≤ t.length := fun p hp => split_mem t p (by rw [hn0]; exact hp)
    rw [hn0] at hspl
    simp only [List.length_cons] at hspl
    replace ht := Lib.hid ht
    replace hn0 := Lib.hid hn0
    replace hspm := Lib.hid hspm
    replace hlo := Lib.hid hlo
    replace hO := Lib.hid hO
    unfold strV
    gi_wp2
    refine ⟨trivial, rfl, (callsIn_wide.2 htr.out).mono ?_⟩
    rintro e w' ⟨rfl, rfl⟩
    gi_wp2
    refine ⟨trivial, rfl, (callsIn_wide.2 hsp.out).mono ?_⟩
    rintro e W1 ⟨g, rfl, hG, hgl, hb1⟩
    have hc0 := hG.cell 0
    rw [List.map_cons, List.getElem?_cons_zero] at hc0
    unfold strV at hc0
    simp only [List.length_cons]
    have i0 : (0 : Int) < ((ns.length + 1 : Nat) : Int) := by omega
    obtain ⟨N, hN⟩ : ∃ N, N = ns.length := ⟨_, rfl⟩
    rw [← hN] at hspl i0 ⊢
    have hN32 : N ≤ 1073741824 := by omega
    replace hspl := Lib.hid hspl
    replace hN := Lib.hid hN
    have hB1 := hB.below hb1 hB.lt
    have hlt1 : w.heap.size < W1.heap.size := hB1.lt
    have hX0 : Blk (W1.alloc (.cells #[Value.string ⟨n0.toArray⟩, .slice none 0 0] 61)) W1.heap.size 61 [.string ⟨n0.toArray⟩, .slice none 0 0] := Blk.new_at rfl
    have hbx0 : Below W1.heap.size W1 (W1.alloc (.cells #[Value.string ⟨n0.toArray⟩, .slice none 0 0] 61)) := (Below.refl _ _).alloc (Nat.le_refl _) _
    have hpar := Lib.hid parse_any
    have hzz := (zero_of_info zeros32).1
    clear htr hsp
    by_cases hN0 : N = 0
    · obtain rfl : N = 0 := hN0
      have hall : (ns.take 0).all pok = true := rfl
      have hrow0 : (W1.alloc (.cells #[Value.string ⟨n0.toArray⟩, .slice none 0 0] 61)).ownsRow W1.heap.size 57 32 (.slice none 0 0) 0 (hCells ((ns.take 0).map pd)) := ⟨rfl, .inl ⟨rfl, rfl⟩⟩
      gi_wp2
      gi_loopw [27] (fun i wr => i = .int .i64 0 ∧ Blk wr W1.heap.size 61 [.string ⟨n0.toArray⟩, .slice none 0 0] ∧ wr.ownsRow W1.heap.size 57 32 (.slice none 0 0) 0 (hCells ((ns.take 0).map pd)) ∧ Below W1.heap.size W1 wr) (fun _ _ => 0)
      case atStart => exact ⟨rfl, hX0, hrow0, hbx0⟩
      case round =>
        obtain ⟨rfl, hX, hrow, hbw⟩ := hrel
        clear hrow0
        have hB4w := hB1.below hbw hlt1
        have hOw := hO.out.keepB (hb1.trans (hbw.mono hb1.size))
        have hbA : Below w'.heap.size w' wr := hb1.trans (hbw.mono hb1.size)
        have hpl : (pre.map lineBr).length ≤ 1073741824 := by
          have h1 := lines_len s
          rw [hlo.out] at h1
          simp only [List.length_append, List.length_cons] at h1
          rw [List.length_map]; omega
        obtain ⟨T, hT⟩ : ∃ T, T = pre.map lineBr := ⟨_, rfl⟩
        rw [← hT] at hOw hpl
        obtain ⟨TA, tc, rfl, _⟩ := hOw.form
        obtain ⟨vs, hvl, hrt, hht⟩ := hOw
        replace hT := Lib.hid hT
        obtain ⟨m, hm⟩ : ∃ m, m = T.length := ⟨_, rfl⟩
        rw [← hm] at hrt hpl hvl hB4w hB hB1
        replace hm := Lib.hid hm
        replace hrt := Lib.hid hrt
        replace hht := Lib.hid hht
        replace hrow := Lib.hid hrow
        replace hvl := Lib.hid hvl
        have hc4 := hB4w.cell 0
        have d0 := hX.cell 0
        have d1 := hX.cell 1
        have hmk : m + 1 ≤ maxLen := by unfold maxLen; omega
        have hbw0 : Below w.heap.size w wr := hb.trans (hbA.mono hb.size)
        have hszw := hbw0.size
        have hone : ∀ u ∈ [Value.string ⟨n0.toArray⟩, .slice none 0 0], u.oneCell' = true := by simp [Value.oneCell']
        clear hX0 hbx0 hc0
        gi_wp2_with (first
          | (refine wpListIn_out (by rfl) ?_
             go_wp2_with (first
               | (at_builtin; refine wpList_append_rd _ rfl (.tmp 45) (.tmp 47) 22 rfl w.heap.size 61 (.agg zeroBr.toArray) 2 40 Tryd.underlying22 brInfo (.slice TA m tc) m (tCells T vs) rfl (hrt.out.alloc _) (fun _ => True) (some ⟨wr.heap.size, 0, none⟩) 1 1 [.string ⟨n0.toArray⟩, .slice none 0 0] rfl rfl (Rd.of_blk (cs := [.string ⟨n0.toArray⟩, .slice none 0 0]) (r := []) (Blk.new_at rfl) rfl trivial) hone hmk (by omega) (by simp; omega) ?_; intro v' W7 hrow7 hg7 hv7; have hB7 := (hB4w.alloc (.cells #[.string ⟨n0.toArray⟩, .slice none 0 0] 61)).keepRow (hrt.out.alloc _) (by decide) hg7; replace hrow7 := Lib.hid hrow7; replace hg7 := Lib.hid hg7; clear hv7; obtain ⟨VA, vc, rfl, _, _⟩ := own_form hrow7.out; have hd7 := hB7.cell 0; have hf7 := hB7.frozen 0; go_frame))
             refine NoOut.normal ?_))
        have hge := setCell_grown W7 w.heap.size 0 (.slice VA (m + 1) vc)
        have hBl := hB7.set_ 0 (.slice VA (m + 1) vc)
        obtain ⟨vs0, _, hro0, _⟩ := hO.out
        have hrowb := own_blk hro0
        have hoA := hrt.out.alloc (.cells #[.string ⟨n0.toArray⟩, .slice none 0 0] 61)
        have hba : Below wr.heap.size wr (wr.alloc (.cells #[.string ⟨n0.toArray⟩, .slice none 0 0] 61)) := (Below.refl _ _).alloc (Nat.le_refl _) _
        have hszf : wr.heap.size ≤ W7.heap.size := Nat.le_trans hba.size hg7.out.size
        have hsame : ∀ j, j < w'.heap.size → j ≠ w.heap.size → some j ≠ (Value.slice TA m tc).ownBlock → (W7.setCell ⟨w.heap.size, 0, none⟩ (.slice VA (m + 1) vc)).heap[j]? = w'.heap[j]? := fun j h1 h2 h3 => by
          have hj := Nat.lt_of_lt_of_le h1 hbA.size
          exact (setCell_at W7 w.heap.size 0 _ h2).trans ((hg7.out.block j (Nat.lt_of_lt_of_le hj hba.size) h3).trans ((hba.block j hj).trans (hbA.block j h1)))
        have hlb : lineBr x = ⟨n0, ns.map pd⟩ := by unfold lineBr; rw [← ht.out, hn0.out]; rfl
        have hrow2 : wr.ownsRow W1.heap.size 57 32 (.slice none 0 0) (ns.map pd).length (hCells (ns.map pd)) := by
          have := hrow.out
          have e : ns.take 0 = ns := by rw [hN.out, List.take_length]
          rw [e] at this
          rw [List.length_map, ← hN.out]; exact this
        have hu := ((((hd_of_own hrow2).lower (Nat.le_trans hb.size hb1.size)).keepB hba).keepRow hoA (by decide) hg7.out)
        have hbf : Below w.heap.size w W7 := hbw0.trans ((hba.mono hszw).trans (own_below hoA hg7.out (Nat.le_trans hszw hba.size)))
        refine ⟨keeps_two (row := (Value.slice TA m tc).ownBlock) (hB) (Nat.le_trans hbA.size (Nat.le_trans hszf hge.size)) (fun r e => by obtain ⟨cs, h⟩ := hrowb r (by rw [← hm.out]; exact e); exact ⟨_, cs, h⟩) hsame, ?_, ?_, ?_, _, hBl, ?_⟩
        · intro cs hS
          refine (hsame _ hS.lt (fun e => ?_) (fun e => ?_)).trans hS
          · exact (hB).ne_ (by rw [e] at hS; exact hS) (by decide) rfl
          · obtain ⟨cs', h⟩ := hrowb _ (by rw [← hm.out]; exact e.symm)
            exact h.ne_ hS (by decide) rfl
        · rw [List.all_append, hok]
          simp only [List.all_cons, List.all_nil, Bool.and_true, Bool.true_and]
          unfold lineOk
          rw [← ht.out, hn0.out]
          show ns.all pok = true
          rw [← List.take_length (l := ns), ← hN.out]; exact hall
        · exact hbf.grown hge hbf.size (fun j e => by cases e; exact Nat.le_refl _)
        · have := OwnTab.snoc (base := w.heap.size) (T := T) (b := lineBr x) (vs := vs) (by rw [hvl.out, hm.out]) (fun j b u h1 h2 => ((hht.out j b u h1 h2).keepB hba).keepRow hoA (by decide) hg7.out) (u := .slice none 0 0) (by rw [hlb]; exact hu) (by rw [hlb, ← hm.out]; exact hrow7.out)
          have hf := this.calm hge (fun r e t cs hB => by
            cases e
            have := hB.unique hB7
            subst this
            exact ⟨by decide, by decide⟩)
          rw [List.map_append, List.map_cons, List.map_nil, ← hT.out]
          exact hf
    · have i3 : ¬ (N + 1 = 1) := by omega
      gi_wp2
      gi_loopw [27] (fun i wr => ∃ (k : Nat) (hv : Value), k ≤ N ∧ i = .int .i64 k ∧ Blk wr W1.heap.size 61 [.string ⟨n0.toArray⟩, hv] ∧ wr.ownsRow W1.heap.size 57 32 hv k (hCells ((ns.take k).map pd)) ∧ Below W1.heap.size W1 wr ∧ (ns.take k).all pok = true) (fun i _ => N - (intOf i).toNat)
      case atStart => exact ⟨0, _, Nat.zero_le _, rfl, hX0, ⟨rfl, .inl ⟨rfl, rfl⟩⟩, hbx0, rfl⟩
      case round =>
        obtain ⟨k, hv, hk, rfl, hX, hrow, hbw, hall⟩ := hrel
        by_cases hlt : k < N
        · have hkn : k < ns.length := by rw [← hN.out]; exact hlt
          obtain ⟨p, hp⟩ : ∃ p, p = ns[k] := ⟨_, rfl⟩
          have hgw := (hG.below hbw hG.lt).cell (1 + k)
          rw [List.map_cons, Nat.add_comm, List.getElem?_cons_succ, List.getElem?_map, List.getElem?_eq_getElem hkn, ← hp, Nat.add_comm] at hgw
          have hpm : p ∈ ns := by rw [hp]; exact List.getElem_mem hkn
          have htk : Hid (ns.take (k + 1) = ns.take k ++ [p]) := Lib.hid (by rw [hp]; exact take_at hkn)
          have hkl : ((ns.take k).map pd).length = k := by rw [List.length_map, List.length_take]; omega
          obtain ⟨done, hdn⟩ : ∃ done, done = ns.take k := ⟨_, rfl⟩
          rw [← hdn] at htk hkl hrow hall
          simp only [Option.map_some, strV] at hgw
          have i1 : (0 : Int) ≤ (k : Int) := by omega
          have i2 : (k : Int) < (N : Int) := by omega
          have hdl := pd_length p
          have hdB : ((pd p).map B).length = 32 := by rw [List.length_map]; exact hdl
          have hdi : (Tryd.prog.info? 57).map (·.size) = some ((pd p).map B).length := by rw [hdB]; kernel_rfl
          have hBw : Blk wr w.heap.size 22 [v] := hB1.below hbw hlt1
          obtain ⟨HA, hc, rfl, hkc, hcm⟩ := own_form hrow
          obtain ⟨D, hD⟩ : ∃ D, D = (pd p).map B := ⟨_, rfl⟩
          have hpar2 : Hid (∀ w, Calls Tryd.prog 44 #[.string ⟨p.toArray⟩] w fun e w' => e = .returned (.tuple #[.agg D.toArray, .bool (pok p)]) ∧ Below w.heap.size w w') := Lib.hid (fun w => by rw [hD]; exact parse_any p w)
          rw [← hD] at hdB hdi
          have hD1 : ∀ u ∈ D, u.oneCell' = true := by rw [hD]; exact all_B _
          have hDi2 : (Tryd.prog.info? 57).map (·.size) = some zero32.length := hdi.trans (by rw [hdB]; rfl)
          have hDl : zero32.length = D.length := by rw [hdB]; rfl
          replace hdn := Lib.hid hdn
          replace hp := Lib.hid hp
          replace hD := Lib.hid hD
          replace hkl := Lib.hid hkl
          replace hall := Lib.hid hall
          replace hpm := Lib.hid hpm
          replace hrow := Lib.hid hrow
          clear hX0 hbx0 hc0 hdl
          obtain ⟨ok, hok2⟩ : ∃ ok, ok = pok p := ⟨_, rfl⟩
          rw [← hok2] at hpar2
          replace hok2 := Lib.hid hok2
          have hbA : Below w'.heap.size w' wr := hb1.trans (hbw.mono hb1.size)
          have hltr : w.heap.size < wr.heap.size := hBw.lt
          cases ok
          · gi_wp2_with (first
              | (refine wpListIn_out (by rfl) ?_
                 go_wp2_with (first
                   | (go_at_call 44; (with_reducible refine (hpar2.out _).mono ?_); rintro e W5 ⟨rfl, hb5⟩)
                   | (refine wpList_store_blk rfl 57 (.tmp 10) (.tmp 34) rfl W5.heap.size D rfl rfl 57 zero32 (Blk.new_at rfl) hDl hdi hD1 ?_; obtain ⟨hbox, hbb⟩ := boxed W5 57 zero32 D; generalize (W5.alloc (.cells zero32.toArray 57)).setRow W5.heap.size D.toArray = W6 at hbox hbb ⊢; have hB6 := (hBw.below hb5 hltr).below hbb (Nat.lt_of_lt_of_le hltr hb5.size); have hb6 := hbA.trans ((hb5.mono hbA.size).trans (hbb.mono (Nat.le_trans hbA.size hb5.size))); have hc6 := hB6.cell 0; have hf6 := hB6.frozen 0; clear hbb; go_frame))
                 refine NoOut.normal ?_))
            have hge := setCell_grown W6 w.heap.size 0 (.slice none 0 0)
            have hBl := hB6.set_ 0 (.slice none 0 0)
            have hnok : lineOk x = false := by
              unfold lineOk
              rw [← ht.out, hn0.out]
              show ns.all pok = false
              rw [List.all_eq_false]
              exact ⟨p, hpm.out, by rw [← hok2.out]; simp⟩
            have hall' : (linesOf s).all lineOk = false := by
              rw [hlo.out, List.all_append, List.all_cons, hnok]; simp
            refine ⟨keeps_two (row := none) hB (Nat.le_trans hb6.size hge.size) (fun r e => by cases e) (fun k hk hne _ => (setCell_at W6 w.heap.size 0 _ hne).trans (hb6.block k hk)), rfl, ?_, ?_, ?_, hBl⟩
            · unfold parseOk; rw [hall']; rfl
            · intro e
              have := hlo.out
              rw [e] at this
              cases pre <;> cases this
            · exact (hb.trans (hb6.mono hb.size)).grown hge (Nat.le_trans hb.size hb6.size) (fun k e => by cases e; exact Nat.le_refl _)
          · have hrk : k + 1 ≤ maxLen := by unfold maxLen; omega
            gi_wp2_with (first
              | (refine wpListIn_out (by rfl) ?_
                 go_wp2_with (first
                   | (go_at_call 44; (with_reducible refine (hpar2.out _).mono ?_); rintro e W5 ⟨rfl, hb5⟩)
                   | (refine wpList_store_blk rfl 57 (.tmp 10) (.tmp 34) rfl W5.heap.size D rfl rfl 57 zero32 (Blk.new_at rfl) hDl hdi hD1 ?_; obtain ⟨hbox, hbb⟩ := boxed W5 57 zero32 D; generalize (W5.alloc (.cells zero32.toArray 57)).setRow W5.heap.size D.toArray = W6 at hbox hbb ⊢; have hbr6 := hb5.trans (hbb.mono hb5.size); have hX6 := hX.below hbr6 hX.lt; have hd6 := hX6.cell 1; have hrow6 := Lib.hid (own_touch (L := []) hrow.out (Touch.ofBelow hbr6) (by simp)); have hbw6 := hbw.trans (hbr6.mono hbw.size); clear hbb; go_frame)
                   | (refine wpList_load_blk rfl 57 (.tmp 10) rfl W5.heap.size rfl 57 D hbox _ Tryd.underlying57 rfl hdi ?_; go_frame)
                   | (refine wpList_build_dig (.tmp 40) rfl rfl D hdB rfl ?_; go_frame)
                   | (at_builtin; refine wpList_append_rd _ rfl (.tmp 39) (.tmp 41) 44 rfl W1.heap.size 57 (.agg zero32.toArray) 32 32 Tryd.underlying44 digInfo (.slice HA k hc) k (hCells (done.map pd)) rfl (hrow6.out.alloc _) (fun _ => True) (some ⟨W6.heap.size, 0, none⟩) 1 1 D rfl hdB (Rd.of_blk (cs := D) (r := []) (Blk.new_at rfl) (by simp) trivial) hD1 hrk (by omega) (by have := hbw6.size; simp; omega) ?_; intro v' W7 hrow7 hg7 hv7; have hX7 := (hX6.alloc (.cells D.toArray 57)).keepRow (hrow6.out.alloc _) (by decide) hg7; have hb7 := (hbw6.alloc hbw6.size (.cells D.toArray 57)).trans (own_below (hrow6.out.alloc _) hg7 (by have := hbw6.size; simp; omega)); replace hrow7 := Lib.hid hrow7; clear hg7 hv7; obtain ⟨VA, vc, rfl, _, _⟩ := own_form hrow7.out; have hd7 := hX7.cell 1; have hf7 := hX7.frozen 1; clear hX6 hd6 hrow6; go_frame))
                 refine NoOut.normal ?_))
            have hBf := hX7.set_ 1 (.slice VA (k + 1) vc)
            have hok2' : pok p = true := hok2.out.symm
            go_roundw
            case rel =>
              refine ⟨k + 1, _, by omega, by simp, hBf, ?_, ?_, ?_⟩
              · rw [htk.out, List.map_append, List.map_cons, List.map_nil, hCells_snoc, ← hD.out]
                exact own_keepCell hrow7.out hX7 (by decide)
              · exact hb7.grown (setCell_grown W7 W1.heap.size 1 _) hb7.size (fun j e => by cases e; exact Nat.le_refl _)
              · rw [htk.out, List.all_append, hall.out]; simp [hok2']
            case measure => simp [intOf]; omega
        · obtain rfl : k = N := by omega
          have hB4w := hB1.below hbw hlt1
          obtain ⟨HA, hc, rfl, hkc, hcm⟩ := own_form hrow
          have hOw := hO.out.keepB (hb1.trans (hbw.mono hb1.size))
          have hbA : Below w'.heap.size w' wr := hb1.trans (hbw.mono hb1.size)
          have hpl : (pre.map lineBr).length ≤ 1073741824 := by
            have h1 := lines_len s
            rw [hlo.out] at h1
            simp only [List.length_append, List.length_cons] at h1
            rw [List.length_map]; omega
          obtain ⟨T, hT⟩ : ∃ T, T = pre.map lineBr := ⟨_, rfl⟩
          rw [← hT] at hOw hpl
          obtain ⟨TA, tc, rfl, _⟩ := hOw.form
          obtain ⟨vs, hvl, hrt, hht⟩ := hOw
          replace hT := Lib.hid hT
          obtain ⟨m, hm⟩ : ∃ m, m = T.length := ⟨_, rfl⟩
          rw [← hm] at hrt hpl hvl hB4w hB hB1
          replace hm := Lib.hid hm
          replace hrt := Lib.hid hrt
          replace hht := Lib.hid hht
          replace hrow := Lib.hid hrow
          replace hvl := Lib.hid hvl
          have hc4 := hB4w.cell 0
          have d0 := hX.cell 0
          have d1 := hX.cell 1
          have hmk : m + 1 ≤ maxLen := by unfold maxLen; omega
          have hbw0 : Below w.heap.size w wr := hb.trans (hbA.mono hb.size)
          have hszw := hbw0.size
          have hone : ∀ u ∈ [Value.string ⟨n0.toArray⟩, .slice HA k hc], u.oneCell' = true := by simp [Value.oneCell']
          clear hX0 hbx0 hc0
          gi_wp2_with (first
            | (refine wpListIn_out (by rfl) ?_
               go_wp2_with (first
                 | (at_builtin; refine wpList_append_rd _ rfl (.tmp 45) (.tmp 47) 22 rfl w.heap.size 61 (.agg zeroBr.toArray) 2 40 Tryd.underlying22 brInfo (.slice TA m tc) m (tCells T vs) rfl (hrt.out.alloc _) (fun _ => True) (some ⟨wr.heap.size, 0, none⟩) 1 1 [.string ⟨n0.toArray⟩, .slice HA k hc] rfl rfl (Rd.of_blk (cs := [.string ⟨n0.toArray⟩, .slice HA k hc]) (r := []) (Blk.new_at rfl) rfl trivial) hone hmk (by omega) (by simp; omega) ?_; intro v' W7 hrow7 hg7 hv7; have hB7 := (hB4w.alloc (.cells #[.string ⟨n0.toArray⟩, .slice HA k hc] 61)).keepRow (hrt.out.alloc _) (by decide) hg7; replace hrow7 := Lib.hid hrow7; replace hg7 := Lib.hid hg7; clear hv7; obtain ⟨VA, vc, rfl, _, _⟩ := own_form hrow7.out; have hd7 := hB7.cell 0; have hf7 := hB7.frozen 0; go_frame))
               refine NoOut.normal ?_))
          have hge := setCell_grown W7 w.heap.size 0 (.slice VA (m + 1) vc)
          have hBl := hB7.set_ 0 (.slice VA (m + 1) vc)
          obtain ⟨vs0, _, hro0, _⟩ := hO.out
          have hrowb := own_blk hro0
          have hoA := hrt.out.alloc (.cells #[.string ⟨n0.toArray⟩, .slice HA k hc] 61)
          have hba : Below wr.heap.size wr (wr.alloc (.cells #[.string ⟨n0.toArray⟩, .slice HA k hc] 61)) := (Below.refl _ _).alloc (Nat.le_refl _) _
          have hszf : wr.heap.size ≤ W7.heap.size := Nat.le_trans hba.size hg7.out.size
          have hsame : ∀ j, j < w'.heap.size → j ≠ w.heap.size → some j ≠ (Value.slice TA m tc).ownBlock → (W7.setCell ⟨w.heap.size, 0, none⟩ (.slice VA (m + 1) vc)).heap[j]? = w'.heap[j]? := fun j h1 h2 h3 => by
            have hj := Nat.lt_of_lt_of_le h1 hbA.size
            exact (setCell_at W7 w.heap.size 0 _ h2).trans ((hg7.out.block j (Nat.lt_of_lt_of_le hj hba.size) h3).trans ((hba.block j hj).trans (hbA.block j h1)))
          have hlb : lineBr x = ⟨n0, ns.map pd⟩ := by unfold lineBr; rw [← ht.out, hn0.out]; rfl
          have hrow2 : wr.ownsRow W1.heap.size 57 32 (.slice HA k hc) (ns.map pd).length (hCells (ns.map pd)) := by
            have := hrow.out
            have e : ns.take k = ns := by rw [hN.out, List.take_length]
            rw [e] at this
            rw [List.length_map, ← hN.out]; exact this
          have hu := ((((hd_of_own hrow2).lower (Nat.le_trans hb.size hb1.size)).keepB hba).keepRow hoA (by decide) hg7.out)
          have hbf : Below w.heap.size w W7 := hbw0.trans ((hba.mono hszw).trans (own_below hoA hg7.out (Nat.le_trans hszw hba.size)))
          refine ⟨keeps_two (row := (Value.slice TA m tc).ownBlock) (hB) (Nat.le_trans hbA.size (Nat.le_trans hszf hge.size)) (fun r e => by obtain ⟨cs, h⟩ := hrowb r (by rw [← hm.out]; exact e); exact ⟨_, cs, h⟩) hsame, ?_, ?_, ?_, _, hBl, ?_⟩
          · intro cs hS
            refine (hsame _ hS.lt (fun e => ?_) (fun e => ?_)).trans hS
            · exact (hB).ne_ (by rw [e] at hS; exact hS) (by decide) rfl
            · obtain ⟨cs', h⟩ := hrowb _ (by rw [← hm.out]; exact e.symm)
              exact h.ne_ hS (by decide) rfl
          · rw [List.all_append, hok]
            simp only [List.all_cons, List.all_nil, Bool.and_true, Bool.true_and]
            unfold lineOk
            rw [← ht.out, hn0.out]
            show ns.all pok = true
            rw [← List.take_length (l := ns), ← hN.out]; exact hall
          · exact hbf.grown hge hbf.size (fun j e => by cases e; exact Nat.le_refl _)
          · have := OwnTab.snoc (base := w.heap.size) (T := T) (b := lineBr x) (vs := vs) (by rw [hvl.out, hm.out]) (fun j b u h1 h2 => ((hht.out j b u h1 h2).keepB hba).keepRow hoA (by decide) hg7.out) (u := .slice HA k hc) (by rw [hlb]; exact hu) (by rw [hlb, ← hm.out]; exact hrow7.out)
            have hf := this.calm hge (fun r e t cs hB => by
              cases e
              have := hB.unique hB7
              subst this
              exact ⟨by decide, by decide⟩)
            rw [List.map_append, List.map_cons, List.map_nil, ← hT.out]
            exact hf
  case stop =>
    rintro D c pre W hDl ⟨rfl, hbad, hne, hb, hB⟩ hD
    refine wpIn_wide.2 ?_
    dsimp only
    clear hB2 hS2 hb2
    obtain ⟨T, hT⟩ : ∃ T : Tab, T = [] := ⟨_, rfl⟩
    obtain ⟨TA, hTA⟩ : ∃ TA : Option Addr, TA = none := ⟨_, rfl⟩
    obtain ⟨tc, htc⟩ : ∃ tc : Nat, tc = 0 := ⟨_, rfl⟩
    have hO : OwnTab W w.heap.size (.slice TA T.length tc) T := by subst hT; subst hTA; subst htc; exact OwnTab.nil
    replace hB : Blk W w.heap.size 22 [.slice TA T.length tc] := by subst hT; subst hTA; subst htc; exact hB
    have hTfit : TFit T := by subst hT; exact ⟨by simp, by simp⟩
    have hTok : parseOk s = (decide (mayE T = 0) && decide (printS T = s)) := by
      subst hT; rw [hbad]; symm; rw [Bool.and_eq_false_iff]; right; exact decide_eq_false (fun e => hne (by rw [← e]; rfl))
    have hTl : parseOk s = true → T = looseT s := fun h => by rw [hbad] at h; cases h
    clear hT hTA htc hbad hne
    have hfitb := hTfit
    have hcall := Lib.hid (print_any T _ _ W hO.tab hfitb)
    have hc4 : W.cell? ⟨w.heap.size, 0, none⟩ = some (.slice TA T.length tc) := hB.cell 0
    have hlt : w.heap.size < W.heap.size := hB.lt
    replace hO := Lib.hid hO
    replace hTfit := Lib.hid hTfit
    clear hB hfitb
    obtain ⟨Pt, hPt⟩ : ∃ Pt, Pt = printT T := ⟨_, rfl⟩
    obtain ⟨m, hm⟩ : ∃ m, m = mayE T := ⟨_, rfl⟩
    rw [← hPt, ← hm] at hcall
    unfold strV at hcall
    have hpsz : (⟨Pt.toArray⟩ : ByteArray).size = Pt.length := strLn Pt
    replace hPt := Lib.hid hPt
    replace hm := Lib.hid hm
    replace hTok := Lib.hid hTok
    replace hTl := Lib.hid hTl
    go_wp2_with (first
      | (go_at_call 13; (with_reducible refine hcall.out.mono ?_); rintro e W3 ⟨rfl, hb3⟩; have hc43 : W3.cell? ⟨w.heap.size, 0, none⟩ = some (.slice TA T.length tc) := (by rw [hb3.cell (p := ⟨w.heap.size, 0, none⟩) hlt]; exact hc4)))
    all_goals
      have hDl2 : D < W.heap.size := (Array.getElem?_eq_some_iff.1 hD).1
      have hD3 : W3.heap[D]? = some (.deferred (some [])) := (hb3.block D hDl2).trans hD
      have hgr := grownBy_putObj' W3 D (.deferred none)
      have hbf : Below w.heap.size w (W3.putObj D (.deferred none)) := (hb.trans (hb3.mono hb.size)).grown hgr (Nat.le_trans hb.size hb3.size) (fun k e => by cases e; omega)
      have hOf : OwnTab (W3.putObj D (.deferred none)) w.heap.size (.slice TA T.length tc) T := (hO.out.keepB hb3).calm hgr (fun r e t cs hB => by cases e; exact absurd hB (not_cells ⟨_, hD3, rfl⟩))
      rw [Exit.noGoto_ret]
      refine leaves_mark hD3 _ (results_tmp2 rfl _ _ _) ⟨hbf, ?_⟩
    · rename_i hm0 hne
      have hP : Pt = printS T := by rw [hPt.out, printT, ← hm.out, if_pos hm0]
      have hF : parseOk s = false := by
        rw [hTok.out, ← hP]
        have : Pt ≠ s := by intro e; rw [e] at hne; simp at hne
        simp [this]
      rw [hF]
      rfl
    · rename_i hm0 hne
      have hP : Pt = printS T := by rw [hPt.out, printT, ← hm.out, if_pos hm0]
      have hT : parseOk s = true := by
        have : Pt = s := by simpa using hne
        rw [hTok.out, ← hP, ← hm.out]
        simp [this, hm0]
      rw [hT]
      refine ⟨_, rfl, ?_⟩
      have := hTl.out hT
      rw [← this]
      exact hOf
    · rename_i hm0
      have hF : parseOk s = false := by
        rw [hTok.out, ← hm.out]
        simp [hm0]
      rw [hF]
      rfl
  case done =>
    rintro D W hDl ⟨hok, hb, v, hB, hO⟩ hD
    dsimp only
    clear hB2 hS2 hb2
    obtain ⟨T, hT⟩ : ∃ T : Tab, T = (linesOf s).map lineBr := ⟨_, rfl⟩
    rw [← hT] at hO
    obtain ⟨TA, tc, rfl, _⟩ := hO.form
    have hTfit : TFit T := by rw [hT]; exact looseT_fit s hs
    have hTok : parseOk s = (decide (mayE T = 0) && decide (printS T = s)) := by
      unfold parseOk; rw [hok, Bool.true_and, hT]; rfl
    have hTl : parseOk s = true → T = looseT s := fun _ => hT
    clear hT hok
    have hfitb := hTfit
    have hcall := Lib.hid (print_any T _ _ W hO.tab hfitb)
    have hc4 : W.cell? ⟨w.heap.size, 0, none⟩ = some (.slice TA T.length tc) := hB.cell 0
    have hlt : w.heap.size < W.heap.size := hB.lt
    replace hO := Lib.hid hO
    replace hTfit := Lib.hid hTfit
    clear hB hfitb
    obtain ⟨Pt, hPt⟩ : ∃ Pt, Pt = printT T := ⟨_, rfl⟩
    obtain ⟨m, hm⟩ : ∃ m, m = mayE T := ⟨_, rfl⟩
    rw [← hPt, ← hm] at hcall
    unfold strV at hcall
    have hpsz : (⟨Pt.toArray⟩ : ByteArray).size = Pt.length := strLn Pt
    replace hPt := Lib.hid hPt
    replace hm := Lib.hid hm
    replace hTok := Lib.hid hTok
    replace hTl := Lib.hid hTl
    go_wp2_with (first
      | (go_at_call 13; (with_reducible refine hcall.out.mono ?_); rintro e W3 ⟨rfl, hb3⟩; have hc43 : W3.cell? ⟨w.heap.size, 0, none⟩ = some (.slice TA T.length tc) := (by rw [hb3.cell (p := ⟨w.heap.size, 0, none⟩) hlt]; exact hc4)))
    all_goals
      have hDl2 : D < W.heap.size := (Array.getElem?_eq_some_iff.1 hD).1
      have hD3 : W3.heap[D]? = some (.deferred (some [])) := (hb3.block D hDl2).trans hD
      have hgr := grownBy_putObj' W3 D (.deferred none)
      have hbf : Below w.heap.size w (W3.putObj D (.deferred none)) := (hb.trans (hb3.mono hb.size)).grown hgr (Nat.le_trans hb.size hb3.size) (fun k e => by cases e; omega)
      have hOf : OwnTab (W3.putObj D (.deferred none)) w.heap.size (.slice TA T.length tc) T := (hO.out.keepB hb3).calm hgr (fun r e t cs hB => by cases e; exact absurd hB (not_cells ⟨_, hD3, rfl⟩))
      rw [Exit.noGoto_ret]
      refine leaves_mark hD3 _ (results_tmp2 rfl _ _ _) ⟨hbf, ?_⟩
    · rename_i hm0 hne
      have hP : Pt = printS T := by rw [hPt.out, printT, ← hm.out, if_pos hm0]
      have hF : parseOk s = false := by
        rw [hTok.out, ← hP]
        have : Pt ≠ s := by intro e; rw [e] at hne; simp at hne
        simp [this]
      rw [hF]
      rfl
    · rename_i hm0 hne
      have hP : Pt = printS T := by rw [hPt.out, printT, ← hm.out, if_pos hm0]
      have hT : parseOk s = true := by
        have : Pt = s := by simpa using hne
        rw [hTok.out, ← hP, ← hm.out]
        simp [this, hm0]
      rw [hT]
      refine ⟨_, rfl, ?_⟩
      have := hTl.out hT
      rw [← this]
      exact hOf
    · rename_i hm0
      have hF : parseOk s = false := by
        rw [hTok.out, ← hm.out]
        simp [hm0]
      rw [hF]
      rfl
end Go.Proofs.YtlenmkemjaaaoaaDoor
end
