/- Where one is behind a text: line and column; joins; where a spot is found. Plain. -/
import GoSem.Core.Float
namespace Go.Proofs.YtnkmcjkmabjfhaaDoor

/-- One byte more. -/
def stepS (p : Nat × Nat) (b : UInt8) : Nat × Nat := if b = 10 then (p.1 + 1, 0) else (p.1, p.2 + 1)
/-- The line and the column behind a text. -/
def spotS (l : List UInt8) : Nat × Nat := l.foldl stepS (0, 0)
def joinS (p q : Nat × Nat) : Nat × Nat := if q.1 = 0 then (p.1, p.2 + q.2) else (p.1 + q.1, q.2)
theorem spotS_nil : spotS [] = (0, 0) := rfl
theorem spotS_snoc (l : List UInt8) (b : UInt8) : spotS (l ++ [b]) = stepS (spotS l) b := by simp [spotS]
theorem spotS_take (l : List UInt8) (k : Nat) (h : k < l.length) : spotS (l.take (k + 1)) = stepS (spotS (l.take k)) (l.getD k 0) := by
  rw [List.take_succ_eq_append_getElem h, spotS_snoc, List.getD_eq_getElem?_getD, List.getElem?_eq_getElem h]
  rfl
theorem foldl_le : ∀ (l : List UInt8) (p : Nat × Nat), (l.foldl stepS p).1 + (l.foldl stepS p).2 ≤ p.1 + p.2 + l.length
  | [], p => by simp
  | b :: l, p => by
    have := foldl_le l (stepS p b)
    have h2 : (stepS p b).1 + (stepS p b).2 ≤ p.1 + p.2 + 1 := by unfold stepS; split <;> simp <;> omega
    simp only [List.foldl_cons, List.length_cons]
    omega
theorem spotS_le (l : List UInt8) : (spotS l).1 + (spotS l).2 ≤ l.length := by
  have h := foldl_le l (0, 0)
  simp only [Nat.zero_add] at h
  exact h
theorem spotS_take_le (l : List UInt8) (k : Nat) : (spotS (l.take k)).1 + (spotS (l.take k)).2 ≤ l.length := by
  have h1 := spotS_le (l.take k)
  have h2 : (l.take k).length ≤ l.length := by simp; omega
  omega
theorem joinS_zero (q : Nat × Nat) : joinS (0, 0) q = q := by
  unfold joinS
  split
  · rename_i h; cases q; simp_all
  · cases q; simp
theorem join_step (p q : Nat × Nat) (b : UInt8) : joinS (stepS p b) q = joinS p (joinS (stepS (0, 0) b) q) := by
  unfold joinS stepS
  by_cases hb : b = 10 <;> by_cases hq : q.1 = 0 <;> simp [hb, hq] <;> omega
theorem foldl_join : ∀ (l : List UInt8) (p : Nat × Nat), l.foldl stepS p = joinS p (spotS l)
  | [], p => by simp [spotS, joinS]
  | b :: l, p => by
    have h1 := foldl_join l (stepS p b)
    have h2 := foldl_join l (stepS (0, 0) b)
    have h3 : spotS (b :: l) = l.foldl stepS (stepS (0, 0) b) := rfl
    rw [h3, h2, List.foldl_cons, h1, join_step]
theorem spotS_append (a b : List UInt8) : spotS (a ++ b) = joinS (spotS a) (spotS b) := by
  have : spotS (a ++ b) = b.foldl stepS (spotS a) := by simp [spotS]
  rw [this, foldl_join]
theorem joinS_assoc (p q r : Nat × Nat) : joinS (joinS p q) r = joinS p (joinS q r) := by
  unfold joinS
  by_cases hq : q.1 = 0 <;> by_cases hr : r.1 = 0 <;> simp [hq, hr] <;> omega
/-- Being ahead. -/
def lessP (p q : Nat × Nat) : Bool := decide (p.1 < q.1) || (decide (p.1 = q.1) && decide (p.2 < q.2))
theorem lessP_iff (p q : Nat × Nat) : lessP p q = true ↔ p.1 < q.1 ∨ (p.1 = q.1 ∧ p.2 < q.2) := by simp [lessP]
theorem less_step (p : Nat × Nat) (b : UInt8) : lessP p (stepS p b) = true := by
  rw [lessP_iff]; unfold stepS; split <;> simp
theorem less_trans {p q r : Nat × Nat} (h1 : lessP p q = true) (h2 : lessP q r = true) : lessP p r = true := by
  rw [lessP_iff] at *; omega
theorem less_take (l : List UInt8) (n : Nat) : ∀ m, n < m → m ≤ l.length → lessP (spotS (l.take n)) (spotS (l.take m)) = true
  | 0, h, _ => by omega
  | m + 1, h, hm => by
    rw [spotS_take l m (by omega)]
    by_cases e : n = m
    · subst e; exact less_step _ _
    · exact less_trans (less_take l n m (by omega) (by omega)) (less_step _ _)
theorem less_irrefl (p : Nat × Nat) : lessP p p = false := by simp [lessP]
theorem less_asymm {p q : Nat × Nat} (h : lessP p q = true) : lessP q p = false := by
  rw [Bool.eq_false_iff]; intro h2; rw [lessP_iff] at *; omega
theorem take_inj (l : List UInt8) {n m : Nat} (hn : n ≤ l.length) (hm : m ≤ l.length) (h : spotS (l.take n) = spotS (l.take m)) : n = m := by
  rcases Nat.lt_trichotomy n m with h1 | h1 | h1
  · have := less_take l n m h1 hm
    rw [h, less_irrefl] at this; cases this
  · exact h1
  · have := less_take l m n h1 hn
    rw [h, less_irrefl] at this; cases this
end Go.Proofs.YtnkmcjkmabjfhaaDoor
