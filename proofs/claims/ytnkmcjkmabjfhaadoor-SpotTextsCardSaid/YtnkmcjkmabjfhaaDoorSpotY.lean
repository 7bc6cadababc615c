/- The walk of Join; a digit's text; alive. -/
import Derived.Test.YtnkmcjkmabjfhaaDoorSpotX
namespace Go.Proofs.YtnkmcjkmabjfhaaDoor
open Go.RowKit

theorem isP_of {x n : Nat} (h : IsN x n) : isP x = decide (n ≤ 1125899906842624) := by
  unfold isP
  by_cases hn : n ≤ 1125899906842624
  · rw [isN_partOf h hn]; simp [hn]
  · cases hp : partOf x with
    | none => simp [hn]
    | some m =>
      obtain ⟨h1, h2⟩ := partOf_isN hp
      rw [pow50] at h2
      have := isN_inj h h1
      omega
/-- What Join hands back. -/
def JoinV (o : Option (Nat × Nat)) (v : Value) : Prop := match o with
  | some r => SpotV v r
  | none => v = .complex .f64 0 0
/-- What two numbers come to, joined. -/
def joinW (a b c d : Nat) : Option (Nat × Nat) := match pairOf a b, pairOf c d with
  | some p, some q => joinO p q
  | _, _ => none
theorem neq_zero {x n : Nat} (h : IsN x n) : (FloatKind.f64.format.order x 0 != some .eq) = !decide (n = 0) := by
  have h1 : FloatKind.f64.format.order x 0 = some (compare n 0) := order_isN h zero_isN
  rw [h1]
  show (!(some (compare n 0) == some .eq)) = _
  rw [cmp_eq]
theorem eq_isN {x y n m : Nat} (h : IsN x n) (g : IsN y m) : (FloatKind.f64.format.order x y == some .eq) = decide (n = m) := by
  have h1 : FloatKind.f64.format.order x y = some (compare n m) := order_isN h g
  rw [h1, cmp_eq]
theorem joinW_no {a b c d : Nat} (h : (isP a && isP b) = false ∨ (isP c && isP d) = false) : joinW a b c d = none := by
  unfold joinW
  rcases h with h | h
  · rw [pairOf_none h]
  · rw [pairOf_none h]
    cases pairOf a b <;> rfl
set_option maxHeartbeats 1000000 in
theorem join_no (a b c d : Nat) (h : (isP a && isP b) = false ∨ (isP c && isP d) = false) (w : World) :
    Calls Tryd.prog 21 #[.complex .f64 a b, .complex .f64 c d] w fun e w' => e = .returned (.tuple #[.complex .f64 0 0, .bool false]) ∧ w = w' := by
  have c1 := Lib.hid (fun w => is_any a b w)
  have c2 := Lib.hid (fun w => is_any c d w)
  generalize (isP a && isP b) = x at *
  generalize (isP c && isP d) = y at *
  cases x
  · clear h
    go_enter Tryd.func21, Tryd.ntmps21
    go_wp2_with fail
    refine (c1.out _).mono ?_
    rintro e w' ⟨rfl, rfl⟩
    go_wp2
    go_ret2
    exact ⟨rfl, rfl⟩
  · have hy : y = false := by simpa using h
    subst hy
    clear h
    go_enter Tryd.func21, Tryd.ntmps21
    go_wp2_with fail
    refine (c1.out _).mono ?_
    rintro e w' ⟨rfl, rfl⟩
    go_wp2_with fail
    refine (c2.out _).mono ?_
    rintro e w' ⟨rfl, rfl⟩
    go_wp2
    go_ret2
    exact ⟨rfl, rfl⟩
set_option maxHeartbeats 1000000 in
theorem join_yes (a b c d : Nat) (p q : Nat × Nat) (h1 : pairOf a b = some p) (h2 : pairOf c d = some q) (w : World) :
    Calls Tryd.prog 21 #[.complex .f64 a b, .complex .f64 c d] w fun e w' => (∃ v, e = .returned (.tuple #[v, .bool (joinO p q).isSome]) ∧ JoinV (joinO p q) v) ∧ w = w' := by
  obtain ⟨g1, g2⟩ := pairOf_some h1
  obtain ⟨g3, g4⟩ := pairOf_some h2
  have i1 : (isP a && isP b) = true := by unfold isP; rw [g1, g2]; rfl
  have i2 : (isP c && isP d) = true := by unfold isP; rw [g3, g4]; rfl
  have c1 := fun w => is_any a b w
  have c2 := fun w => is_any c d w
  rw [i1] at c1
  rw [i2] at c2
  obtain ⟨n1, l1⟩ := partOf_isN g1
  obtain ⟨n2, l2⟩ := partOf_isN g2
  obtain ⟨n3, l3⟩ := partOf_isN g3
  obtain ⟨n4, l4⟩ := partOf_isN g4
  rw [pow50] at l1 l2 l3 l4
  obtain ⟨z1, e1, z1n⟩ := add_f n1 n3 (by omega)
  obtain ⟨z2, e2, z2n⟩ := add_f n2 n4 (by omega)
  have hadd := fun w => run_cadd (P := Tryd.prog) w 23 e1 e2
  have hnz := neq_zero n3
  replace c1 := Lib.hid c1
  replace c2 := Lib.hid c2
  clear h1 h2 g1 g2 g3 g4 i1 i2 e1 e2 n1 n2 n3
  by_cases hq : q.1 = 0
  · have hJ : joinS p q = (p.1 + q.1, p.2 + q.2) := by simp [joinS, hq]
    have c3 := fun w => is_any z1 z2 w
    rw [isP_of z1n, isP_of z2n] at c3
    have hO : joinO p q = if p.1 + q.1 ≤ 1125899906842624 ∧ p.2 + q.2 ≤ 1125899906842624 then some (p.1 + q.1, p.2 + q.2) else none := by unfold joinO; rw [hJ]
    rw [hO]
    have hz : (FloatKind.f64.format.order c 0 != some .eq) = false := by rw [hnz]; simp [hq]
    clear hnz hq hJ hO n4
    by_cases hb : p.1 + q.1 ≤ 1125899906842624 ∧ p.2 + q.2 ≤ 1125899906842624
    · rw [if_pos hb]
      have e3 : (decide (p.1 + q.1 ≤ 1125899906842624) && decide (p.2 + q.2 ≤ 1125899906842624)) = true := by simp [hb.1, hb.2]
      rw [e3] at c3
      replace c3 := Lib.hid c3
      have hV : SpotV (.complex .f64 z1 z2) (p.1 + q.1, p.2 + q.2) := ⟨z1, z2, rfl, z1n, z2n⟩
      replace hV := Lib.hid hV
      clear hb e3 z1n z2n l1 l2 l3 l4
      go_enter Tryd.func21, Tryd.ntmps21
      go_wp2_with fail
      refine (c1.out _).mono ?_
      rintro e w' ⟨rfl, rfl⟩
      go_wp2_with fail
      refine (c2.out _).mono ?_
      rintro e w' ⟨rfl, rfl⟩
      go_wp2_with fail
      refine (c3.out _).mono ?_
      rintro e w' ⟨rfl, rfl⟩
      go_wp2
      go_ret2
      exact ⟨⟨.complex .f64 z1 z2, rfl, hV.out⟩, rfl⟩
    · rw [if_neg hb]
      have e3 : (decide (p.1 + q.1 ≤ 1125899906842624) && decide (p.2 + q.2 ≤ 1125899906842624)) = false := by
        rw [Bool.eq_false_iff]; simpa using hb
      rw [e3] at c3
      replace c3 := Lib.hid c3
      clear hb e3 z1n z2n l1 l2 l3 l4
      go_enter Tryd.func21, Tryd.ntmps21
      go_wp2_with fail
      refine (c1.out _).mono ?_
      rintro e w' ⟨rfl, rfl⟩
      go_wp2_with fail
      refine (c2.out _).mono ?_
      rintro e w' ⟨rfl, rfl⟩
      go_wp2_with fail
      refine (c3.out _).mono ?_
      rintro e w' ⟨rfl, rfl⟩
      go_wp2
      go_ret2
      exact ⟨⟨.complex .f64 0 0, rfl, rfl⟩, rfl⟩
  · have hJ : joinS p q = (p.1 + q.1, q.2) := by simp [joinS, hq]
    have c3 := fun w => is_any z1 d w
    rw [isP_of z1n, isP_of n4] at c3
    have hO : joinO p q = if p.1 + q.1 ≤ 1125899906842624 ∧ q.2 ≤ 1125899906842624 then some (p.1 + q.1, q.2) else none := by unfold joinO; rw [hJ]
    rw [hO]
    have hz : (FloatKind.f64.format.order c 0 != some .eq) = true := by rw [hnz]; simp [hq]
    clear hnz hq hJ hO z2n
    by_cases hb : p.1 + q.1 ≤ 1125899906842624 ∧ q.2 ≤ 1125899906842624
    · rw [if_pos hb]
      have e3 : (decide (p.1 + q.1 ≤ 1125899906842624) && decide (q.2 ≤ 1125899906842624)) = true := by simp [hb.1, hb.2]
      rw [e3] at c3
      replace c3 := Lib.hid c3
      have hV : SpotV (.complex .f64 z1 d) (p.1 + q.1, q.2) := ⟨z1, d, rfl, z1n, n4⟩
      replace hV := Lib.hid hV
      clear hb e3 z1n n4 l1 l2 l3 l4
      go_enter Tryd.func21, Tryd.ntmps21
      go_wp2_with fail
      refine (c1.out _).mono ?_
      rintro e w' ⟨rfl, rfl⟩
      go_wp2_with fail
      refine (c2.out _).mono ?_
      rintro e w' ⟨rfl, rfl⟩
      go_wp2_with fail
      refine (c3.out _).mono ?_
      rintro e w' ⟨rfl, rfl⟩
      go_wp2
      go_ret2
      exact ⟨⟨.complex .f64 z1 d, rfl, hV.out⟩, rfl⟩
    · rw [if_neg hb]
      have e3 : (decide (p.1 + q.1 ≤ 1125899906842624) && decide (q.2 ≤ 1125899906842624)) = false := by
        rw [Bool.eq_false_iff]; simpa using hb
      rw [e3] at c3
      replace c3 := Lib.hid c3
      clear hb e3 z1n n4 l1 l2 l3 l4
      go_enter Tryd.func21, Tryd.ntmps21
      go_wp2_with fail
      refine (c1.out _).mono ?_
      rintro e w' ⟨rfl, rfl⟩
      go_wp2_with fail
      refine (c2.out _).mono ?_
      rintro e w' ⟨rfl, rfl⟩
      go_wp2_with fail
      refine (c3.out _).mono ?_
      rintro e w' ⟨rfl, rfl⟩
      go_wp2
      go_ret2
      exact ⟨⟨.complex .f64 0 0, rfl, rfl⟩, rfl⟩
theorem join_any (a b c d : Nat) (w : World) :
    Calls Tryd.prog 21 #[.complex .f64 a b, .complex .f64 c d] w fun e w' => (∃ v, e = .returned (.tuple #[v, .bool (joinW a b c d).isSome]) ∧ JoinV (joinW a b c d) v) ∧ w = w' := by
  by_cases h : (isP a && isP b) = false ∨ (isP c && isP d) = false
  · refine (join_no a b c d h w).mono ?_
    rintro e w' ⟨rfl, rfl⟩
    rw [joinW_no h]
    exact ⟨⟨_, rfl, rfl⟩, rfl⟩
  · have h1 : (isP a && isP b) = true := by cases hx : (isP a && isP b) <;> simp_all
    have h2 : (isP c && isP d) = true := by cases hx : (isP c && isP d) <;> simp_all
    obtain ⟨p, hp⟩ := pairOf_isP h1
    obtain ⟨q, hq⟩ := pairOf_isP h2
    refine (join_yes a b c d p q hp hq w).mono ?_
    rintro e w' h
    have hj : joinW a b c d = joinO p q := by unfold joinW; rw [hp, hq]
    rw [hj]; exact h

set_option maxHeartbeats 1000000 in
theorem itoa_1 (w : World) : Calls Tryd.prog 39 #[.int .i64 1] w fun e w' => e = .returned (.string ⟨#[49]⟩) ∧ w = w' := by
  go_enter Tryd.func39, Tryd.ntmps39
  go_wp2
  go_ret
  exact ⟨rfl, rfl⟩
set_option maxHeartbeats 1000000 in
theorem itoa_4 (w : World) : Calls Tryd.prog 39 #[.int .i64 4] w fun e w' => e = .returned (.string ⟨#[52]⟩) ∧ w = w' := by
  go_enter Tryd.func39, Tryd.ntmps39
  go_wp2
  go_ret
  exact ⟨rfl, rfl⟩
end Go.Proofs.YtnkmcjkmabjfhaaDoor
