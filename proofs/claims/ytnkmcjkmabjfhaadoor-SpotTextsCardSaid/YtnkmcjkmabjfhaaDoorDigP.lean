/- Decimal digits: what a row of them spells, and which rows are numerals. Plain. -/
import Derived.Lib.AtoiAll
import Derived.Lib.ItoaNum
import Derived.Lib.ItoaMem
namespace Go.Proofs.YtnkmcjkmabjfhaaDoor
open Go.Lib

def isDig (c : UInt8) : Bool := decide (48 ≤ c.toNat ∧ c.toNat ≤ 57)
def allDig (l : List UInt8) : Bool := l.all isDig
def valFrom (a : Nat) (l : List UInt8) : Nat := l.foldl (fun a c => 10 * a + (c.toNat - 48)) a
def valN (l : List UInt8) : Nat := valFrom 0 l
theorem valFrom_snoc (a : Nat) (l : List UInt8) (c : UInt8) : valFrom a (l ++ [c]) = 10 * valFrom a l + (c.toNat - 48) := by simp [valFrom]
theorem valN_snoc (l : List UInt8) (c : UInt8) : valN (l ++ [c]) = 10 * valN l + (c.toNat - 48) := valFrom_snoc 0 l c
theorem dig_toNat {d : Nat} (h : d < 10) : (UInt8.ofNat (48 + d)).toNat = 48 + d := by simp; omega
theorem dig_isDig {d : Nat} (h : d < 10) : isDig (UInt8.ofNat (48 + d)) = true := by
  unfold isDig; rw [dig_toNat h]; simp; omega
theorem dec_small {u : Nat} (h : u < 10) : decDigits u = [UInt8.ofNat (48 + u)] := by rw [decDigits, dif_pos h]
theorem dec_big {u : Nat} (h : ¬ u < 10) : decDigits u = decDigits (u / 10) ++ [UInt8.ofNat (48 + u % 10)] := by rw [decDigits, dif_neg h]
theorem dec_ind {P : Nat → Prop} (h1 : ∀ u, u < 10 → P u) (h2 : ∀ u, ¬ u < 10 → P (u / 10) → P u) : ∀ u, P u := by
  intro u
  induction u using Nat.strongRecOn with
  | _ u ih =>
    by_cases h : u < 10
    · exact h1 u h
    · exact h2 u h (ih (u / 10) (by omega))
theorem dec_val (u : Nat) : valN (decDigits u) = u := by
  refine dec_ind (P := fun u => valN (decDigits u) = u) ?_ ?_ u
  · intro u h; rw [dec_small h]; unfold valN valFrom; simp only [List.foldl_cons, List.foldl_nil]; rw [dig_toNat h]; omega
  · intro u h ih; rw [dec_big h, valN_snoc, ih, dig_toNat (by omega)]; omega
theorem dec_all (u : Nat) : allDig (decDigits u) = true := by
  refine dec_ind (P := fun u => allDig (decDigits u) = true) ?_ ?_ u
  · intro u h; rw [dec_small h]; unfold allDig; simp only [List.all_cons, List.all_nil]; rw [dig_isDig h]; rfl
  · intro u h ih
    rw [dec_big h]; unfold allDig at ih ⊢
    rw [List.all_append, ih]; simp only [List.all_cons, List.all_nil]; rw [dig_isDig (by omega)]; rfl
theorem dec_ne (u : Nat) : decDigits u ≠ [] := by
  by_cases h : u < 10
  · rw [dec_small h]; simp
  · rw [dec_big h]; simp
theorem dec_head (u : Nat) (h : 0 < u) : (decDigits u).head? ≠ some 48 := by
  revert h
  refine dec_ind (P := fun u => 0 < u → (decDigits u).head? ≠ some 48) ?_ ?_ u
  · intro u h h0
    rw [dec_small h]
    simp only [List.head?_cons, ne_eq, Option.some.injEq]
    intro e
    have := congrArg UInt8.toNat e
    rw [dig_toNat h] at this
    simp at this
    omega
  · intro u h ih _
    rw [dec_big h]
    have h2 := ih (by omega)
    cases hd : decDigits (u / 10) with
    | nil => exact absurd hd (dec_ne _)
    | cons c l => rw [hd] at h2; simpa using h2
theorem valFrom_ge (l : List UInt8) : ∀ a, a ≤ valFrom a l := by
  induction l with
  | nil => intro a; exact Nat.le_refl _
  | cons c l ih =>
    intro a
    have := ih (10 * a + (c.toNat - 48))
    show a ≤ valFrom (10 * a + (c.toNat - 48)) l
    omega
theorem valN_append (a b : List UInt8) : valN (a ++ b) = valFrom (valN a) b := by simp [valN, valFrom]
theorem valN_take (l : List UInt8) (k : Nat) : valN (l.take k) ≤ valN l := by
  have h : valN l = valFrom (valN (l.take k)) (l.drop k) := by rw [← valN_append, List.take_append_drop]
  rw [h]
  exact valFrom_ge _ _
/-- Which rows of digits are numerals. -/
theorem dec_of_canon : ∀ (n : Nat) (l : List UInt8), l.length = n → l ≠ [] → allDig l = true → (l.head? ≠ some 48 ∨ l.length = 1) → decDigits (valN l) = l := by
  intro n
  induction n with
  | zero => intro l h1 h2; exact absurd (List.eq_nil_of_length_eq_zero h1) h2
  | succ n ih =>
    intro l h1 h2 h3 h4
    obtain ⟨m, c, rfl⟩ : ∃ m c, l = m ++ [c] := by
      refine ⟨l.dropLast, l.getLast h2, ?_⟩
      exact (List.dropLast_concat_getLast h2).symm
    have hc : isDig c = true := by
      unfold allDig at h3; simp at h3; exact h3.2
    have hm : allDig m = true := by
      unfold allDig at h3 ⊢
      rw [List.all_append, Bool.and_eq_true] at h3; exact h3.1
    unfold isDig at hc
    have hc := of_decide_eq_true hc
    have hback : UInt8.ofNat (48 + (c.toNat - 48)) = c := by
      rw [show 48 + (c.toNat - 48) = c.toNat by omega]; simp
    rw [valN_snoc]
    by_cases hm0 : m = []
    · subst hm0
      have : valN [] = 0 := rfl
      rw [this, dec_small (by omega)]
      rw [show 10 * 0 + (c.toNat - 48) = c.toNat - 48 by omega, hback]
      rfl
    · have hml : m.length = n := by simp at h1; exact h1
      have hpos : 0 < m.length := List.length_pos_iff.2 hm0
      have hh : m.head? ≠ some 48 := by
        rcases h4 with h4 | h4
        · cases m with
          | nil => exact absurd rfl hm0
          | cons x m => simpa using h4
        · simp at h4; exact absurd h4 hm0
      have hv := ih m hml hm0 hm (.inl hh)
      have hvp : 0 < valN m := by
        rcases Nat.eq_zero_or_pos (valN m) with h0 | h0
        · rw [h0, dec_small (by omega)] at hv
          rw [← hv] at hh
          exact absurd rfl hh
        · exact h0
      rw [dec_big (by omega), show (10 * valN m + (c.toNat - 48)) / 10 = valN m by omega, show (10 * valN m + (c.toNat - 48)) % 10 = c.toNat - 48 by omega, hv, hback]
/-- The number of a part of a spot's text; none: it is none. -/
def numS (l : List UInt8) : Option Nat := if decDigits (valN l) = l ∧ valN l ≤ 1125899906842624 then some (valN l) else none
theorem numS_dec {n : Nat} (h : n ≤ 1125899906842624) : numS (decDigits n) = some n := by
  unfold numS
  rw [dec_val, if_pos ⟨rfl, h⟩]
theorem numS_some {l : List UInt8} {n : Nat} (h : numS l = some n) : l = decDigits n ∧ n ≤ 1125899906842624 ∧ n = valN l := by
  unfold numS at h
  split at h
  · rename_i hc; injection h with h; subst h; exact ⟨hc.1.symm, hc.2, rfl⟩
  · cases h
theorem parse_digits : ∀ (l : List UInt8) (acc : Nat), allDig l = true → valFrom acc l < 9223372036854775808 → parseUint10 acc l = .ok (valFrom acc l)
  | [], acc, _, _ => rfl
  | c :: l, acc, h, hv => by
    have hc : 48 ≤ c.toNat ∧ c.toNat ≤ 57 := by
      unfold allDig at h; simp only [List.all_cons, Bool.and_eq_true] at h
      have := h.1
      unfold isDig at this
      exact of_decide_eq_true this
    have hl : allDig l = true := by
      unfold allDig at h ⊢; simp only [List.all_cons, Bool.and_eq_true] at h; exact h.2
    have hstep : valFrom acc (c :: l) = valFrom (acc * 10 + (c.toNat - 48)) l := by
      show valFrom (10 * acc + (c.toNat - 48)) l = _
      rw [Nat.mul_comm]
    have hge := valFrom_ge l (acc * 10 + (c.toNat - 48))
    rw [hstep] at hv ⊢
    simp only [parseUint10]
    rw [if_pos hc, if_neg (by omega), if_neg (by omega)]
    exact parse_digits l _ hl hv
theorem atoi_dec {n : Nat} (h : n ≤ 1125899906842624) : atoiAll (decDigits n) = .ok (n : Int) := by
  cases hd : decDigits n with
  | nil => exact absurd hd (dec_ne n)
  | cons c r =>
    have hall := dec_all n
    have hval := dec_val n
    rw [hd] at hall hval
    have hc : 48 ≤ c.toNat ∧ c.toNat ≤ 57 := by
      unfold allDig at hall; simp only [List.all_cons, Bool.and_eq_true] at hall
      have := hall.1
      unfold isDig at this
      exact of_decide_eq_true this
    have hv : valFrom 0 (c :: r) = n := hval
    have hp := parse_digits (c :: r) 0 hall (by rw [hv]; omega)
    rw [hv] at hp
    have h43 : ¬ (c.toNat = 43 ∨ c.toNat = 45) := by omega
    have h45 : ¬ c.toNat = 45 := by omega
    simp only [atoiAll, if_neg h43, parseMag]
    rw [if_neg (by simp), hp]
    simp only [h45, false_and, not_false_eq_true, true_and, if_false]
    rw [if_neg (by omega)]
end Go.Proofs.YtnkmcjkmabjfhaaDoor
