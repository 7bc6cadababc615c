/- The walks of alive, is, the reference's Of, At, Less. -/
import Derived.Test.YtnkmcjkmabjfhaaDoorSpotY
namespace Go.Proofs.YtnkmcjkmabjfhaaDoor
open Go.RowKit

theorem run_conv_isN (w : World) {x n : Nat} (h : IsN x n) (hn : n ≤ 1125899906842624) :
    (convert 30 3 (.float .f64 x)).run Tryd.prog w = .ok (.int .i64 (n : Int)) w := by
  obtain ⟨s, m, i, hr, hs, he⟩ := h
  have hq : wholeOf m i = n := by unfold wholeOf; rw [he]; exact Nat.mul_div_cancel _ (two_pos _)
  have := run_conv_int w hr hs (by rw [hq]; exact hn)
  rwa [hq] at this
set_option maxHeartbeats 1000000 in
theorem text_14 (a b : Nat) (ha : IsN a 1) (hb : IsN b 4) (w : World) :
    Calls Tryd.prog 31 #[.complex .f64 a b] w fun e w' => e = .returned (.string ⟨#[49, 58, 52]⟩) ∧ w = w' := by
  have c1 := fun w => is_any a b w
  rw [isP_of ha, isP_of hb] at c1
  replace c1 := Lib.hid c1
  have h1 := fun w => run_conv_isN w ha (by decide)
  have h2 := fun w => run_conv_isN w hb (by decide)
  have i1 := Lib.hid itoa_1
  have i4 := Lib.hid itoa_4
  clear ha hb
  go_enter Tryd.func31, Tryd.ntmps31
  go_wp2_with fail
  refine (c1.out _).mono ?_
  rintro e w' ⟨rfl, rfl⟩
  go_wp2_with fail
  refine (i1.out _).mono ?_
  rintro e w' ⟨rfl, rfl⟩
  go_wp2_with fail
  refine (i4.out _).mono ?_
  rintro e w' ⟨rfl, rfl⟩
  go_wp2
  go_ret
  exact ⟨rfl, rfl⟩
theorem two3_isN : IsN 4613937818241073152 3 := isN_nearest (n := 3) (by decide)
theorem four_isN : IsN 4616189618054758400 4 := isN_nearest (n := 4) (by decide)
set_option maxHeartbeats 1000000 in
theorem alive_any (w : World) :
    Calls Tryd.prog 18 #[] w fun e w' => e = .returned (.bool true) ∧ w = w' := by
  have hp : pairOf 4607182418800017408 4607182418800017408 = some (1, 1) := by
    unfold pairOf; rw [isN_partOf one_isN (by decide)]
  have hq : pairOf 0 4613937818241073152 = some (0, 3) := by
    unfold pairOf; rw [isN_partOf zero_isN (by decide), isN_partOf two3_isN (by decide)]
  have c1 := fun w => join_yes 4607182418800017408 4607182418800017408 0 4613937818241073152 (1, 1) (0, 3) hp hq w
  have hj : joinO (1, 1) (0, 3) = some (1, 4) := by decide
  rw [hj] at c1
  replace c1 := Lib.hid c1
  have c2 := fun w => of_any [97, 98, 10, 99] (by decide) w
  have hs : spotS [97, 98, 10, 99] = (1, 1) := by decide
  rw [hs] at c2
  replace c2 := Lib.hid c2
  clear hp hq hj hs
  go_enter Tryd.func18, Tryd.ntmps18
  go_wp2_with fail
  refine (c1.out _).mono ?_
  rintro e w' ⟨⟨v, rfl, a, b, rfl, ha, hb⟩, rfl⟩
  go_wp2_with fail
  refine (c2.out _).mono ?_
  rintro e w' ⟨⟨v, rfl, c, d, rfl, hc, hd⟩, rfl⟩
  have e1 := eq_isN hc one_isN
  have e2 := eq_isN hd one_isN
  have e3 := eq_isN ha one_isN
  have e4 := eq_isN hb four_isN
  have ht := Lib.hid (fun w => text_14 a b ha hb w)
  clear ha hb hc hd
  simp only [decide_true] at e1 e2 e3 e4
  go_wp2_with (go_at_call 31; refine (ht.out _).mono ?_; rintro e w' ⟨rfl, rfl⟩)
  go_ret
  exact ⟨rfl, rfl⟩
set_option maxHeartbeats 1000000 in
theorem islaw_any (a b : Nat) (p q : Nat × Nat) (ha : IsN a p.1) (hb : IsN b p.2) (hq1 : q.1 ≤ 2251799813685248) (hq2 : q.2 ≤ 2251799813685248) (w : World) :
    Calls Tryd.prog 15 #[.complex .f64 a b, SV q] w fun e w' => e = .returned (.bool (decide (p = q))) ∧ Below w.heap.size w w' := by
  have e1 : (FloatKind.f64.format.order a (floatOfInt .f64 (q.1 : Int)) == some .eq) = decide (p.1 = q.1) := eq_isN ha (isN_nearest (by omega))
  have e2 : (FloatKind.f64.format.order b (floatOfInt .f64 (q.2 : Int)) == some .eq) = decide (p.2 = q.2) := eq_isN hb (isN_nearest (by omega))
  have hd : decide (p = q) = (decide (p.1 = q.1) && decide (p.2 = q.2)) := by
    rw [Bool.eq_iff_iff]; simp [Prod.ext_iff]
  rw [hd]
  clear hd ha hb
  generalize decide (p.1 = q.1) = x at *
  generalize decide (p.2 = q.2) = y at *
  obtain ⟨q1, q2⟩ := q
  simp only at e1 e2 hq1 hq2
  cases x
  · go_enter Tryd.func15, Tryd.ntmps15
    go_wp2
    go_ret
    exact ⟨rfl, (Below.refl _ _).alloc (Nat.le_refl _) _⟩
  · go_enter Tryd.func15, Tryd.ntmps15
    go_wp2
    go_ret
    exact ⟨by simp, (Below.refl _ _).alloc (Nat.le_refl _) _⟩
end Go.Proofs.YtnkmcjkmabjfhaaDoor
