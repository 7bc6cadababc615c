/- The walks of SpotJoins, SpotOrders, SpotGroups. -/
import Derived.Test.YtnkmcjkmabjfhaaDoorWalkOf
namespace Go.Proofs.YtnkmcjkmabjfhaaDoor
open Go.RowKit

theorem pairD_some {a b : Nat} {p : Nat × Nat} (h : pairOf a b = some p) : pairD a b = p := by unfold pairD; rw [h]; rfl
theorem pairD_none {a b : Nat} (h : pairOf a b = none) : pairD a b = (0, 0) := by unfold pairD; rw [h]; rfl
theorem joinW_some {a b c d : Nat} {p q : Nat × Nat} (h1 : pairOf a b = some p) (h2 : pairOf c d = some q) : joinW a b c d = joinO p q := by unfold joinW; rw [h1, h2]
theorem isP_some {a b : Nat} {p : Nat × Nat} (h : pairOf a b = some p) : (isP a && isP b) = true := by
  obtain ⟨g1, g2⟩ := pairOf_some h
  unfold isP; rw [g1, g2]; rfl
theorem isP_none {a b : Nat} (h : pairOf a b = none) : (isP a && isP b) = false := by
  cases hb : (isP a && isP b) with
  | false => rfl
  | true => obtain ⟨p, hp⟩ := pairOf_isP hb; rw [h] at hp; cases hp
/-- What the law SpotJoins asks of the two answers. -/
theorem joins_agree (a b c d : Nat) :
    ((isP a && isP b) = true ∧ (isP c && isP d) = true ∧ ∃ r, joinO (pairD a b) (pairD c d) = some r ∧ joinW a b c d = some r) ∨
    (joinW a b c d = none ∧ ((isP a && isP b) = false ∨ (isP c && isP d) = false ∨ (joinO (pairD a b) (pairD c d)).isSome = false)) := by
  cases h1 : pairOf a b with
  | none => exact .inr ⟨joinW_no (.inl (isP_none h1)), .inl (isP_none h1)⟩
  | some p =>
    cases h2 : pairOf c d with
    | none => exact .inr ⟨joinW_no (.inr (isP_none h2)), .inr (.inl (isP_none h2))⟩
    | some q =>
      rw [pairD_some h1, pairD_some h2, joinW_some h1 h2]
      cases hj : joinO p q with
      | none => exact .inr ⟨rfl, .inr (.inr rfl)⟩
      | some r => exact .inl ⟨isP_some h1, isP_some h2, r, rfl, rfl⟩
theorem joinO_le {p q r : Nat × Nat} (h : joinO p q = some r) : r.1 ≤ 1125899906842624 ∧ r.2 ≤ 1125899906842624 := by
  unfold joinO at h
  split at h
  · rename_i hb; injection h with h; rw [← h]; exact hb
  · cases h
theorem after_boxes {w w2 : World} {a b c d : Nat} (h : Below ((w.alloc (.cells #[.float .f64 a, .float .f64 b] 35)).alloc (.cells #[.float .f64 c, .float .f64 d] 35)).heap.size ((w.alloc (.cells #[.float .f64 a, .float .f64 b] 35)).alloc (.cells #[.float .f64 c, .float .f64 d] 35)) w2) :
    w2.cell? ⟨w.heap.size + 1, 0, none⟩ = some (.float .f64 c) ∧ w2.cell? ⟨w.heap.size + 1, 1, none⟩ = some (.float .f64 d) ∧ w.heap.size + 1 < w2.heap.size ∧ Below w.heap.size w w2 := by
  have hb0 : Below w.heap.size w ((w.alloc (.cells #[.float .f64 a, .float .f64 b] 35)).alloc (.cells #[.float .f64 c, .float .f64 d] 35)) := ((Below.refl _ _).alloc (Nat.le_refl _) _).alloc (by simp) _
  have hB : Blk ((w.alloc (.cells #[.float .f64 a, .float .f64 b] 35)).alloc (.cells #[.float .f64 c, .float .f64 d] 35)) (w.heap.size + 1) 35 [.float .f64 c, .float .f64 d] := Blk.new_at (by simp)
  have hB2 := hB.below h hB.lt
  have hs := h.size
  simp at hs
  exact ⟨by rw [hB2.cell]; rfl, by rw [hB2.cell]; rfl, by omega, hb0.trans (h.mono hb0.size)⟩
theorem after_boxes1 {w w2 : World} {a b c d : Nat} (h : Below ((w.alloc (.cells #[.float .f64 a, .float .f64 b] 35)).alloc (.cells #[.float .f64 c, .float .f64 d] 35)).heap.size ((w.alloc (.cells #[.float .f64 a, .float .f64 b] 35)).alloc (.cells #[.float .f64 c, .float .f64 d] 35)) w2) :
    w2.cell? ⟨w.heap.size, 0, none⟩ = some (.float .f64 a) ∧ w2.cell? ⟨w.heap.size, 1, none⟩ = some (.float .f64 b) := by
  have hB : Blk ((w.alloc (.cells #[.float .f64 a, .float .f64 b] 35)).alloc (.cells #[.float .f64 c, .float .f64 d] 35)) w.heap.size 35 [.float .f64 a, .float .f64 b] := (Blk.new_at rfl).alloc _
  have hB2 := hB.below h hB.lt
  exact ⟨by rw [hB2.cell]; rfl, by rw [hB2.cell]; rfl⟩
theorem after_spot {w w2 : World} {x y : Int} (h : Below (w.alloc (.cells #[.int .i64 x, .int .i64 y] 26)).heap.size (w.alloc (.cells #[.int .i64 x, .int .i64 y] 26)) w2) :
    w2.cell? ⟨w.heap.size, 0, none⟩ = some (.int .i64 x) ∧ w2.cell? ⟨w.heap.size, 1, none⟩ = some (.int .i64 y) ∧ w.heap.size < w2.heap.size ∧ Below w.heap.size w w2 := by
  have hb0 : Below w.heap.size w (w.alloc (.cells #[.int .i64 x, .int .i64 y] 26)) := (Below.refl _ _).alloc (Nat.le_refl _) _
  have hB : Blk (w.alloc (.cells #[.int .i64 x, .int .i64 y] 26)) w.heap.size 26 [.int .i64 x, .int .i64 y] := Blk.new_at rfl
  have hB2 := hB.below h hB.lt
  have hs := h.size
  simp at hs
  exact ⟨by rw [hB2.cell]; rfl, by rw [hB2.cell]; rfl, by omega, hb0.trans (h.mono hb0.size)⟩
set_option maxRecDepth 100000 in
set_option maxHeartbeats 2000000 in
theorem spotJoins_any (a b c d : Nat) (w : World) :
    Calls Tryd.prog 5 #[.agg #[.float .f64 a, .float .f64 b], .agg #[.float .f64 c, .float .f64 d]] w fun e w' => e = .returned (.bool true) ∧ Below w.heap.size w w' := by
  have hz := (zero_of_info zeros26).1
  have c1 := Lib.hid (fun w => join_any a b c d w)
  have c2 := Lib.hid (fun w => ris_any a b w)
  have c3 := Lib.hid (fun w => ris_any c d w)
  have l1 := pairD_le a b
  have l2 := pairD_le c d
  have c5 := Lib.hid (fun w => rjoin_any (pairD a b) (pairD c d) l1.1 l1.2 l2.1 l2.2 w)
  have c4 := Lib.hid alive_any
  have hag := joins_agree a b c d
  have hez := eq_zero
  generalize (isP a && isP b) = x at *
  generalize (isP c && isP d) = y at *
  generalize pairD a b = p at *
  generalize pairD c d = q at *
  clear l1 l2
  obtain ⟨p1, p2⟩ := p
  obtain ⟨q1, q2⟩ := q
  obtain ⟨jo, hjo⟩ : ∃ jo, jo = joinO (p1, p2) (q1, q2) := ⟨_, rfl⟩
  obtain ⟨jw, hjw⟩ : ∃ jw, jw = joinW a b c d := ⟨_, rfl⟩
  rw [← hjo] at c5 hag
  rw [← hjw] at c1 hag
  have hle : ∀ r, jo = some r → r.1 ≤ 1125899906842624 ∧ r.2 ≤ 1125899906842624 := fun r hr => joinO_le (by rw [← hjo]; exact hr)
  clear hjw hjo
  replace hle := Lib.hid hle
  rcases hag with ⟨rfl, rfl, r, rfl, rfl⟩ | ⟨rfl, hag⟩
  · have hr := hle.out r rfl
    have c6 := Lib.hid (fun a b ha hb w => islaw_any a b r r ha hb (by omega) (by omega) w)
    obtain ⟨r1, r2⟩ := r
    clear hle hr
    go_enter Tryd.func5, Tryd.ntmps5
    go_wp2_with fail
    refine (c1.out _).mono ?_
    rintro e w1 ⟨⟨v, rfl, a1, b1, rfl, ha, hb⟩, rfl⟩
    replace c6 := Lib.hid (c6.out a1 b1 ha hb)
    clear ha hb
    go_wp2_with fail
    refine (c2.out _).mono ?_
    rintro e w2 ⟨rfl, hb2⟩
    obtain ⟨k0, k1, hs2, hbw2⟩ := after_boxes hb2
    clear hb2
    go_wp2_with fail
    refine (c3.out _).mono ?_
    rintro e w4 ⟨rfl, hb4⟩
    obtain ⟨m0, m1, hs4, hb4'⟩ := after_spot hb4
    have hbw4 := hbw2.trans (hb4'.mono hbw2.size)
    clear hb4 k0 k1 hbw2 hb4'
    go_wp2_with fail
    refine (c5.out _).mono ?_
    rintro e w6 ⟨rfl, hb6⟩
    obtain ⟨n0, n1, hs6, hb6'⟩ := after_spot hb6
    have hbw6 := hbw4.trans (hb6'.mono hbw4.size)
    clear hb6 m0 m1 hbw4 hb6' n0 n1
    simp only [Option.getD_some, Option.isSome_some]
    go_wp2_with fail
    refine (c6.out _).mono ?_
    rintro e w7 ⟨rfl, hb7⟩
    simp only [decide_true]
    go_wp2_with (go_at_call 18; refine (c4.out _).mono ?_; rintro e w3 ⟨rfl, rfl⟩)
    go_ret
    have hb8 := hbw6.alloc hbw6.size (.cells #[.int .i64 (r1 : Int), .int .i64 (r2 : Int)] 26)
    exact ⟨rfl, hb8.trans (hb7.mono hb8.size)⟩
  · clear hle
    obtain ⟨r, hr⟩ : ∃ r, r = jo.getD (0, 0) := ⟨_, rfl⟩
    obtain ⟨z, hz2⟩ : ∃ z, z = jo.isSome := ⟨_, rfl⟩
    rw [← hr, ← hz2] at c5
    rw [← hz2] at hag
    clear hr hz2
    have hcase : (x = false) ∨ (x = true ∧ y = false) ∨ (x = true ∧ y = true ∧ z = false) := by
      cases x <;> cases y <;> cases z <;> simp_all
    clear hag
    rcases hcase with rfl | ⟨rfl, rfl⟩ | ⟨rfl, rfl, rfl⟩
    all_goals
      go_enter Tryd.func5, Tryd.ntmps5
      go_wp2_with fail
      refine (c1.out _).mono ?_
      rintro e w1 ⟨⟨v, rfl, rfl⟩, rfl⟩
      simp only [Option.isSome_none]
      go_wp2_with fail
      refine (c2.out _).mono ?_
      rintro e w2 ⟨rfl, hb2⟩
      obtain ⟨k0, k1, hs2, hbw2⟩ := after_boxes hb2
      clear hb2
      go_wp2_with fail
      refine (c3.out _).mono ?_
      rintro e w4 ⟨rfl, hb4⟩
      obtain ⟨m0, m1, hs4, hb4'⟩ := after_spot hb4
      have hbw4 := hbw2.trans (hb4'.mono hbw2.size)
      clear hb4 k0 k1 hbw2 hb4'
      go_wp2_with fail
      refine (c5.out _).mono ?_
      rintro e w6 ⟨rfl, hb6⟩
      obtain ⟨n0, n1, hs6, hb6'⟩ := after_spot hb6
      have hbw6 := hbw4.trans (hb6'.mono hbw4.size)
      clear hb6 m0 m1 hbw4 hb6' n0 n1
      go_wp2_with (go_at_call 18; refine (c4.out _).mono ?_; rintro e w3 ⟨rfl, rfl⟩)
      go_ret
      exact ⟨rfl, hbw6.alloc hbw6.size _⟩

set_option maxRecDepth 100000 in
set_option maxHeartbeats 2000000 in
theorem spotOrders_any (a b c d : Nat) (w : World) :
    Calls Tryd.prog 9 #[.agg #[.float .f64 a, .float .f64 b], .agg #[.float .f64 c, .float .f64 d]] w fun e w' => e = .returned (.bool true) ∧ Below w.heap.size w w' := by
  have hz := (zero_of_info zeros26).1
  have c1 := Lib.hid (fun w => less_any a b c d w)
  have c2 := Lib.hid (fun w => ris_any a b w)
  have c3 := Lib.hid (fun w => ris_any c d w)
  have c4 := Lib.hid alive_any
  have c5 := Lib.hid (fun w => rless_any (pairD a b) (pairD c d) w)
  have hL : lessW a b c d = ((isP a && isP b) && ((isP c && isP d) && lessP (pairD a b) (pairD c d))) := by
    unfold lessW
    cases h1 : pairOf a b with
    | none => rw [isP_none h1]; rfl
    | some p =>
      cases h2 : pairOf c d with
      | none => rw [isP_none h2]; simp
      | some q => rw [isP_some h1, isP_some h2, pairD_some h1, pairD_some h2]; rfl
  rw [hL] at c1
  clear hL
  generalize (isP a && isP b) = x at *
  generalize (isP c && isP d) = y at *
  generalize pairD a b = p at *
  generalize pairD c d = q at *
  generalize lessP p q = z at *
  obtain ⟨p1, p2⟩ := p
  obtain ⟨q1, q2⟩ := q
  have hzz : (z == z) = true := by simp
  cases x <;> cases y
  all_goals simp only [Bool.true_and, Bool.false_and] at c1
  all_goals
    go_enter Tryd.func9, Tryd.ntmps9
    go_wp2_with fail
    refine (c2.out _).mono ?_
    rintro e w2 ⟨rfl, hb2⟩
    obtain ⟨k0, k1, hs2, hbw2⟩ := after_boxes hb2
    obtain ⟨j0, j1⟩ := after_boxes1 hb2
    clear hb2
    go_wp2_with fail
    refine (c3.out _).mono ?_
    rintro e w4 ⟨rfl, hb4⟩
    obtain ⟨m0, m1, hs4, hb4'⟩ := after_spot hb4
    have hbw4 := hbw2.trans (hb4'.mono hbw2.size)
    have k0' : w4.cell? ⟨w.heap.size + 1, 0, none⟩ = some (.float .f64 c) := by rw [hb4'.cell (p := ⟨w.heap.size + 1, 0, none⟩) hs2]; exact k0
    have k1' : w4.cell? ⟨w.heap.size + 1, 1, none⟩ = some (.float .f64 d) := by rw [hb4'.cell (p := ⟨w.heap.size + 1, 1, none⟩) hs2]; exact k1
    have j0' : w4.cell? ⟨w.heap.size, 0, none⟩ = some (.float .f64 a) := by rw [hb4'.cell (p := ⟨w.heap.size, 0, none⟩) (by show w.heap.size < _; omega)]; exact j0
    have j1' : w4.cell? ⟨w.heap.size, 1, none⟩ = some (.float .f64 b) := by rw [hb4'.cell (p := ⟨w.heap.size, 1, none⟩) (by show w.heap.size < _; omega)]; exact j1
    have g1 : w.heap.size + 1 < w4.heap.size := by omega
    have g2 : w.heap.size < w4.heap.size := by omega
    clear hb4 k0 k1 j0 j1 hbw2 hb4'
    go_wp2_with fail
    refine (c1.out _).mono ?_
    rintro e w5 ⟨rfl, rfl⟩
    first
      | (go_wp2_with fail
         refine (c5.out _).mono ?_
         rintro e w6 ⟨rfl, hb6⟩
         obtain ⟨n0, n1, hs6, hb6'⟩ := after_spot hb6
         have hbw6 := hbw4.trans (hb6'.mono hbw4.size)
         go_wp2_with (go_at_call 18; refine (c4.out _).mono ?_; rintro e w3 ⟨rfl, rfl⟩)
         go_ret
         exact ⟨rfl, hbw6⟩)
      | (go_wp2_with (go_at_call 18; refine (c4.out _).mono ?_; rintro e w3 ⟨rfl, rfl⟩)
         go_ret
         exact ⟨rfl, hbw4.alloc hbw4.size _⟩)
end Go.Proofs.YtnkmcjkmabjfhaaDoor
