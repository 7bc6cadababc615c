/- The walks of Find and of the reference's Find. -/
import Derived.Test.YtnkmcjkmabjfhaaDoorWalkOf
import Derived.Laws.StructEq
namespace Go.Proofs.YtnkmcjkmabjfhaaDoor
open Go.RowKit

theorem cmp_int_eq {a b : Int} (h : (some (compare a b) == some Ordering.eq) = true) : a = b := by
  simp only [compare, compareOfLessAndEq] at h
  by_cases h1 : a < b
  · simp [h1] at h
  · by_cases h2 : a = b
    · exact h2
    · simp [h1, h2] at h
/-- What equals a whole number is that number. -/
theorem isN_of_eq {a x n : Nat} (ha : IsN a n) (h : (FloatKind.f64.format.order a x == some .eq) = true) : IsN x n := by
  obtain ⟨s, m, i, h1, h2, h3⟩ := ha
  rw [fmt64] at h
  unfold Ieee.Format.order at h
  rw [h1] at h
  cases hd : Ieee.double.read x with
  | infinity t => rw [hd] at h; cases t <;> simp [Ieee.Datum.order] at h
  | nan t f => rw [hd] at h; simp [Ieee.Datum.order] at h
  | number t k j =>
    rw [hd] at h
    simp only [Ieee.Datum.order, signed_val _ h2] at h
    have he := cmp_int_eq h
    have hb1 : min i j ≤ i := by omega
    have hb2 : min i j ≤ j := by omega
    have e1 := scaled h3 hb1
    generalize min i j = b at *
    have ht : t = true → k = 0 := by
      intro e
      subst e
      unfold Ieee.signed at he
      rw [Nat.shiftLeft_eq] at he
      simp only [if_true] at he
      have hz : k * 2 ^ (j - b).toNat = 0 := by omega
      rcases Nat.mul_eq_zero.1 hz with h0 | h0
      · exact h0
      · have := two_pos (j - b).toNat; omega
    rw [signed_val _ ht] at he
    have he2 : m * 2 ^ (i - b).toNat = k * 2 ^ (j - b).toNat := by omega
    rw [he2] at e1
    refine ⟨t, k, j, hd, ht, ?_⟩
    -- k * 2^(j-b) * 2^b⁺ = n * 2^b⁻
    have e3 : (j - b).toNat + b.toNat + (-j).toNat = j.toNat + (-b).toNat := by omega
    have e4 : k * 2 ^ j.toNat * 2 ^ (-b).toNat = n * 2 ^ (-j).toNat * 2 ^ (-b).toNat := by
      calc k * 2 ^ j.toNat * 2 ^ (-b).toNat = k * 2 ^ (j.toNat + (-b).toNat) := by rw [Nat.mul_assoc, ← Nat.pow_add]
        _ = k * 2 ^ (j - b).toNat * 2 ^ b.toNat * 2 ^ (-j).toNat := by rw [← e3, Nat.pow_add, Nat.pow_add, ← Nat.mul_assoc, ← Nat.mul_assoc]
        _ = n * 2 ^ (-b).toNat * 2 ^ (-j).toNat := by rw [e1]
        _ = _ := by rw [Nat.mul_assoc, Nat.mul_comm (2 ^ (-b).toNat), ← Nat.mul_assoc]
    exact Nat.eq_of_mul_eq_mul_right (two_pos _) e4
/-- Is the number x, y the spot p? -/
def tW (x y : Nat) (p : Nat × Nat) : Bool := match pairOf x y with
  | some q => decide (p = q)
  | none => false
theorem eq_tW {a b x y : Nat} {p : Nat × Nat} (ha : IsN a p.1) (hb : IsN b p.2) (h1 : p.1 ≤ 1125899906842624) (h2 : p.2 ≤ 1125899906842624) :
    (FloatKind.f64.format.order a x == some .eq && FloatKind.f64.format.order b y == some .eq) = tW x y p := by
  unfold tW
  cases hp : pairOf x y with
  | some q =>
    obtain ⟨g1, g2⟩ := pairOf_some hp
    rw [eq_isN ha (partOf_isN g1).1, eq_isN hb (partOf_isN g2).1]
    rw [Bool.eq_iff_iff]; simp [Prod.ext_iff]
  | none =>
    simp only
    rw [Bool.eq_false_iff]
    intro h
    rw [Bool.and_eq_true] at h
    rw [pairOf_isN (isN_of_eq ha h.1) (isN_of_eq hb h.2) h1 h2] at hp
    cases hp
/-- What a search hands back. -/
def FindR (len : Nat) (t : Nat → Bool) (n : Nat) (ok : Bool) : Prop :=
  (ok = true ∧ n ≤ len ∧ t n = true ∧ ∀ j, j < n → t j = false) ∨ (ok = false ∧ n = 0 ∧ ∀ j, j ≤ len → t j = false)
theorem findR_unique {len : Nat} {t : Nat → Bool} {n m : Nat} {b c : Bool} (h : FindR len t n b) (g : FindR len t m c) : n = m ∧ b = c := by
  rcases h with ⟨rfl, h1, h2, h3⟩ | ⟨rfl, rfl, h3⟩
  · rcases g with ⟨rfl, g1, g2, g3⟩ | ⟨rfl, rfl, g3⟩
    · refine ⟨?_, rfl⟩
      rcases Nat.lt_trichotomy n m with hl | hl | hl
      · rw [g3 n hl] at h2; cases h2
      · exact hl
      · rw [h3 m hl] at g2; cases g2
    · rw [g3 n h1] at h2; cases h2
  · rcases g with ⟨rfl, g1, g2, g3⟩ | ⟨rfl, rfl, g3⟩
    · rw [h3 m g1] at g2; cases g2
    · exact ⟨rfl, rfl⟩
theorem take_over (l : List UInt8) (n : Nat) (h : n = l.length) : l.take (n + 1) = l.take n := by
  rw [List.take_of_length_le (by omega), List.take_of_length_le (by omega)]
set_option maxHeartbeats 1000000 in
theorem find_any (l : List UInt8) (hl : l.length ≤ 140737488351232) (x y : Nat) (w : World) :
    Calls Tryd.prog 26 #[.string ⟨l.toArray⟩, .complex .f64 x y] w fun e w' => (∃ (n : Nat) (ok : Bool), e = .returned (.tuple #[.int .i64 (n : Int), .bool ok]) ∧ FindR l.length (fun j => tW x y (spotS (l.take j))) n ok) ∧ w = w' := by
  have hsz : (⟨l.toArray⟩ : ByteArray).size = l.length := by simp [ByteArray.size]
  obtain ⟨n, hn⟩ : ∃ n, n = l.length := ⟨_, rfl⟩
  rw [← hn] at hsz hl ⊢
  replace hn := Lib.hid hn
  go_enter Tryd.func26, Tryd.ntmps26
  go_wp2
  go_loopw [11, 6] (fun i c wr => ∃ k : Nat, k ≤ n + 1 ∧ i = .int .i64 (k : Int) ∧ SpotV c (spotS (l.take k)) ∧ (∀ j, j < k → tW x y (spotS (l.take j)) = false) ∧ w = wr) (fun i _ _ => n + 1 - (intOf i).toNat)
  case atStart => exact ⟨0, Nat.zero_le _, rfl, ⟨0, 0, rfl, zero_isN, zero_isN⟩, fun j hj => absurd hj (by omega), rfl⟩
  case round =>
    obtain ⟨k, hk, rfl, ⟨a, b, rfl, ha, hb⟩, hno, hw⟩ := hrel
    replace hno := Lib.hid hno
    have hle := spotS_take_le l k
    rw [← hn.out] at hle
    by_cases hlt : k < n + 1
    · have htest := eq_tW (x := x) (y := y) ha hb (by omega) (by omega)
      cases ht : tW x y (spotS (l.take k)) with
      | true =>
        rw [ht] at htest
        have ht' := Lib.hid ht
        clear ha hb hle ht
        rw [Bool.and_eq_true] at htest
        obtain ⟨t1, t2⟩ := htest
        go_wp2
        go_ret2
        exact ⟨⟨k, true, rfl, .inl ⟨rfl, by omega, ht'.out, hno.out⟩⟩, hw⟩
      | false =>
        rw [ht] at htest
        have hno2 : ∀ j, j < k + 1 → tW x y (spotS (l.take j)) = false := fun j hj => by
          by_cases e : j = k
          · rw [e]; exact ht
          · exact hno.out j (by omega)
        replace hno2 := Lib.hid hno2
        clear ht hno
        by_cases hlt2 : k < n
        · have hkl : k < l.length := by rw [← hn.out]; exact hlt2
          have hidx := index_str l k hkl
          obtain ⟨c, hc⟩ : ∃ c, c = l.getD k 0 := ⟨_, rfl⟩
          rw [← hc] at hidx
          have hst := step_any a b (spotS (l.take k)) ha hb (by omega) c
          rw [hc, ← spotS_take l k hkl, ← hc] at hst
          replace hst := Lib.hid hst
          replace hc := Lib.hid hc
          clear ha hb hle
          go_wp2_with (go_at_call 32; refine (hst.out _).mono ?_; rintro e w1 ⟨⟨a', b', rfl, ha', hb'⟩, rfl⟩)
          all_goals
            go_roundw
            case rel => exact ⟨k + 1, by omega, by go_num, ⟨a', b', rfl, ha', hb'⟩, hno2.out, hw⟩
            case measure => simp [intOf]; omega
        · have hV : SpotV (.complex .f64 a b) (spotS (l.take (k + 1))) := by
            rw [take_over l k (by rw [← hn.out]; omega)]; exact ⟨a, b, rfl, ha, hb⟩
          replace hV := Lib.hid hV
          clear ha hb hle
          go_wp2
          all_goals
            go_roundw
            case rel => exact ⟨k + 1, by omega, by go_num, hV.out, hno2.out, hw⟩
            case measure => simp [intOf]; omega
    · clear ha hb hle
      go_wp2
      go_ret2
      exact ⟨⟨0, false, rfl, .inr ⟨rfl, rfl, fun j hj => hno.out j (by omega)⟩⟩, hw⟩

def RF (w : World) (p q : Nat × Nat) (wr : World) : Prop :=
  Blk wr w.heap.size 26 (cellsS q) ∧ Blk wr (w.heap.size + 1) 26 (cellsS p) ∧ Below w.heap.size w wr
theorem rf_col {w wr : World} {p q : Nat × Nat} (h : RF w p q wr) : RF w (p.1, p.2 + 1) q (wr.setCell ⟨w.heap.size + 1, 1, none⟩ (.int .i64 ((p.2 : Int) + 1))) :=
  ⟨h.1.far (by simp) _, h.2.1.set_ 1 _, h.2.2.setCell (by simp) _⟩
theorem rf_line {w wr : World} {p q : Nat × Nat} (h : RF w p q wr) : RF w (p.1 + 1, 0) q (((wr.setCell ⟨w.heap.size + 1, 1, none⟩ (.int .i64 ((p.2 : Int) + 1))).setCell ⟨w.heap.size + 1, 0, none⟩ (.int .i64 ((p.1 : Int) + 1))).setCell ⟨w.heap.size + 1, 1, none⟩ (.int .i64 0)) := by
  refine ⟨((h.1.far (by simp) _).far (by simp) _).far (by simp) _, ?_, ((h.2.2.setCell (by simp) _).setCell (by simp) _).setCell (by simp) _⟩
  exact ((h.2.1.set_ 1 _).set_ 0 _).set_ 1 _
set_option maxHeartbeats 1000000 in
theorem rfind_any (l : List UInt8) (hl : l.length ≤ 140737488351232) (q : Nat × Nat) (w : World) :
    Calls Tryd.prog 27 #[.string ⟨l.toArray⟩, SV q] w fun e w' => (∃ (n : Nat) (ok : Bool), e = .returned (.tuple #[.int .i64 (n : Int), .bool ok]) ∧ FindR l.length (fun j => decide (spotS (l.take j) = q)) n ok) ∧ Below w.heap.size w w' := by
  have hsz : (⟨l.toArray⟩ : ByteArray).size = l.length := by simp [ByteArray.size]
  have hz := (zero_of_info zeros26).1
  obtain ⟨n, hn⟩ : ∃ n, n = l.length := ⟨_, rfl⟩
  rw [← hn] at hsz hl ⊢
  replace hn := Lib.hid hn
  go_enter Tryd.func27, Tryd.ntmps27
  go_wp2
  have hS : RF w (0, 0) q ((w.alloc (.cells #[.int .i64 (q.1 : Int), .int .i64 (q.2 : Int)] 26)).alloc (.cells #[.int .i64 0, .int .i64 0] 26)) :=
    ⟨(Blk.new_at (cs := cellsS q) rfl).alloc _, Blk.new_at (cs := cellsS (0, 0)) (by simp), ((Below.refl _ _).alloc (Nat.le_refl _) _).alloc (by simp) _⟩
  generalize World.alloc (World.alloc _ _) _ = w0 at hS ⊢
  go_loopw [7] (fun i wr => ∃ k : Nat, k ≤ n + 1 ∧ i = .int .i64 (k : Int) ∧ RF w (spotS (l.take k)) q wr ∧ ∀ j, j < k → decide (spotS (l.take j) = q) = false) (fun i _ => n + 1 - (intOf i).toNat)
  case atStart => exact ⟨0, Nat.zero_le _, rfl, hS, fun j hj => absurd hj (by omega)⟩
  case round =>
    clear hS
    obtain ⟨k, hk, rfl, hM, hno⟩ := hrel
    replace hno := Lib.hid hno
    have hle := spotS_take_le l k
    rw [← hn.out] at hle
    by_cases hlt : k < n + 1
    · obtain ⟨p, hp⟩ : ∃ p, p = spotS (l.take k) := ⟨_, rfl⟩
      rw [← hp] at hle hM
      have hp1 : p.1 ≤ 2251799813685248 := by omega
      have hp2 : p.2 ≤ 2251799813685248 := by omega
      have hc0 : wr.cell? ⟨w.heap.size + 1, 0, none⟩ = some (.int .i64 (p.1 : Int)) := by rw [hM.2.1.cell]; rfl
      have hc1 : wr.cell? ⟨w.heap.size + 1, 1, none⟩ = some (.int .i64 (p.2 : Int)) := by rw [hM.2.1.cell]; rfl
      have hq0 : wr.cell? ⟨w.heap.size, 0, none⟩ = some (.int .i64 (q.1 : Int)) := by rw [hM.1.cell]; rfl
      have hq1 : wr.cell? ⟨w.heap.size, 1, none⟩ = some (.int .i64 (q.2 : Int)) := by rw [hM.1.cell]; rfl
      have hf0 := hM.2.1.frozen 0
      have hf1 := hM.2.1.frozen 1
      replace hp := Lib.hid hp
      clear hle
      by_cases ht : p = q
      · have t1 : ((p.1 : Int) == (q.1 : Int)) = true := by rw [ht]; simp
        have t2 : ((p.2 : Int) == (q.2 : Int)) = true := by rw [ht]; simp
        have ht' := Lib.hid ht
        clear ht
        go_wp2
        go_ret2
        exact ⟨⟨k, true, rfl, .inl ⟨rfl, by omega, by show decide (spotS (l.take k) = q) = true; rw [← hp.out]; simp [ht'.out], hno.out⟩⟩, hM.2.2⟩
      · have hno2 : ∀ j, j < k + 1 → decide (spotS (l.take j) = q) = false := fun j hj => by
          by_cases e : j = k
          · rw [e, ← hp.out]; simp [ht]
          · exact hno.out j (by omega)
        replace hno2 := Lib.hid hno2
        have htt : (((p.1 : Int) == (q.1 : Int)) = false) ∨ (((p.1 : Int) == (q.1 : Int)) = true ∧ ((p.2 : Int) == (q.2 : Int)) = false) := by
          by_cases e : p.1 = q.1
          · right
            refine ⟨by rw [e]; simp, ?_⟩
            rw [beq_eq_false_iff_ne]
            intro h2
            exact ht (Prod.ext e (by omega))
          · left
            rw [beq_eq_false_iff_ne]; omega
        clear ht hno
        by_cases hlt2 : k < n
        · have hkl : k < l.length := by rw [← hn.out]; exact hlt2
          have hidx := index_str l k hkl
          have hst := spotS_take l k hkl
          obtain ⟨c, hc⟩ : ∃ c, c = l.getD k 0 := ⟨_, rfl⟩
          rw [← hc] at hidx hst
          rw [← hp.out] at hst
          replace hst := Lib.hid hst
          replace hc := Lib.hid hc
          by_cases h10 : c = 10
          · have hb10 : (bv c == 10) = true := by rw [h10]; rfl
            have h10' := Lib.hid h10
            clear h10
            rcases htt with t1 | ⟨t1, t2⟩
            all_goals
              go_wp2
              go_roundw
              case rel =>
                refine ⟨k + 1, by omega, by go_num, ?_, hno2.out⟩
                rw [hst.out, stepS, if_pos h10'.out]
                exact rf_line hM
              case measure => simp [intOf]; omega
          · have hb10 : (bv c == 10) = false := by rw [beq_eq_false_iff_ne]; intro h2; exact h10 (bv_inj (y := 10) h2)
            have h10' := Lib.hid h10
            clear h10
            rcases htt with t1 | ⟨t1, t2⟩
            all_goals
              go_wp2
              go_roundw
              case rel =>
                refine ⟨k + 1, by omega, by go_num, ?_, hno2.out⟩
                rw [hst.out, stepS, if_neg h10'.out]
                exact rf_col hM
              case measure => simp [intOf]; omega
        · have hV : RF w (spotS (l.take (k + 1))) q wr := by
            rw [take_over l k (by rw [← hn.out]; omega), ← hp.out]; exact hM
          replace hV := Lib.hid hV
          rcases htt with t1 | ⟨t1, t2⟩
          all_goals
            go_wp2
            go_roundw
            case rel => exact ⟨k + 1, by omega, by go_num, hV.out, hno2.out⟩
            case measure => simp [intOf]; omega
    · clear hle
      go_wp2
      go_ret2
      exact ⟨⟨0, false, rfl, .inr ⟨rfl, rfl, fun j hj => hno.out j (by omega)⟩⟩, hM.2.2⟩
end Go.Proofs.YtnkmcjkmabjfhaaDoor
