/- The walk of SpotGroups. -/
import Derived.Test.YtnkmcjkmabjfhaaDoorWalkJoins
import Derived.Deep.QuietTactic
import Derived.BigQuiet
namespace Go.Proofs.YtnkmcjkmabjfhaaDoor
open Go.RowKit

/-- Where all four joins are told, the two ends are one. -/
theorem joinO_assoc {p q r s t u v : Nat × Nat} (h1 : joinO p q = some s) (h2 : joinO s r = some t) (h3 : joinO q r = some u) (h4 : joinO p u = some v) : t = v := by
  have g : ∀ {a b c : Nat × Nat}, joinO a b = some c → c = joinS a b := fun h => by
    unfold joinO at h
    split at h
    · injection h with h; exact h.symm
    · cases h
  rw [g h2, g h1, g h4, g h3, joinS_assoc]
/-- A value that Join handed back, as a pair of words. -/
theorem joinV_form {o : Option (Nat × Nat)} {v : Value} (h : JoinV o v) : ∃ a b, v = .complex .f64 a b ∧ ∀ r, o = some r → IsN a r.1 ∧ IsN b r.2 := by
  cases o with
  | none => exact ⟨0, 0, h, fun r hr => by cases hr⟩
  | some r =>
    obtain ⟨a, b, rfl, ha, hb⟩ := h
    refine ⟨a, b, rfl, ?_⟩
    intro r' hr
    injection hr with hr
    subst hr
    exact ⟨ha, hb⟩
theorem joinW_parts {a b c d : Nat} {r : Nat × Nat} (h : joinW a b c d = some r) : ∃ p q, pairOf a b = some p ∧ pairOf c d = some q ∧ joinO p q = some r := by
  unfold joinW at h
  cases h1 : pairOf a b with
  | none => rw [h1] at h; cases h
  | some p =>
    cases h2 : pairOf c d with
    | none => rw [h1, h2] at h; cases h
    | some q => rw [h1, h2] at h; exact ⟨p, q, rfl, rfl, h⟩
theorem pair_of_isN {a b : Nat} {p r : Nat × Nat} (h : pairOf a b = some p) (ha : IsN a r.1) (hb : IsN b r.2) : p = r := by
  obtain ⟨g1, g2⟩ := pairOf_some h
  exact Prod.ext (isN_inj (partOf_isN g1).1 ha) (isN_inj (partOf_isN g2).1 hb)
/-- The four joins of the law: where each is told, the two ends are equal. -/
theorem groups_eq {x1 x2 y1 y2 z1 z2 p1 p2 q1 q2 u1 u2 v1 v2 : Nat} {o1 o2 o3 o4 : Option (Nat × Nat)}
    (e1 : o1 = joinW x1 x2 y1 y2) (f1 : ∀ r, o1 = some r → IsN p1 r.1 ∧ IsN p2 r.2)
    (e2 : o2 = joinW p1 p2 z1 z2) (f2 : ∀ r, o2 = some r → IsN q1 r.1 ∧ IsN q2 r.2)
    (e3 : o3 = joinW y1 y2 z1 z2) (f3 : ∀ r, o3 = some r → IsN u1 r.1 ∧ IsN u2 r.2)
    (e4 : o4 = joinW x1 x2 u1 u2) (f4 : ∀ r, o4 = some r → IsN v1 r.1 ∧ IsN v2 r.2)
    (h1 : o1.isSome = true) (h2 : o2.isSome = true) (h3 : o3.isSome = true) (h4 : o4.isSome = true) :
    (FloatKind.f64.format.order q1 v1 == some .eq && FloatKind.f64.format.order q2 v2 == some .eq) = true := by
  obtain ⟨s, hs⟩ := Option.isSome_iff_exists.1 h1
  obtain ⟨t, ht⟩ := Option.isSome_iff_exists.1 h2
  obtain ⟨u, hu⟩ := Option.isSome_iff_exists.1 h3
  obtain ⟨v, hv⟩ := Option.isSome_iff_exists.1 h4
  obtain ⟨px, py, a1, a2, a3⟩ := joinW_parts (e1.symm.trans hs)
  obtain ⟨ps, pz, b1, b2, b3⟩ := joinW_parts (e2.symm.trans ht)
  obtain ⟨py', pz', c1, c2, c3⟩ := joinW_parts (e3.symm.trans hu)
  obtain ⟨px', pu, d1, d2, d3⟩ := joinW_parts (e4.symm.trans hv)
  rw [a2] at c1; injection c1 with c1; subst c1
  rw [b2] at c2; injection c2 with c2; subst c2
  rw [a1] at d1; injection d1 with d1; subst d1
  have k1 := pair_of_isN b1 (f1 s hs).1 (f1 s hs).2
  have k2 := pair_of_isN d2 (f3 u hu).1 (f3 u hu).2
  subst k1; subst k2
  have := joinO_assoc a3 b3 c3 d3
  subst this
  rw [eq_isN (f2 t ht).1 (f4 t hv).1, eq_isN (f2 t ht).2 (f4 t hv).2]
  simp
set_option maxRecDepth 100000 in
set_option maxHeartbeats 4000000 in
theorem spotGroups_any (a b c d e f : Nat) (w : World) :
    Calls Tryd.prog 7 #[.agg #[.float .f64 a, .float .f64 b], .agg #[.float .f64 c, .float .f64 d], .agg #[.float .f64 e, .float .f64 f]] w fun e w' => e = .returned (.bool true) ∧ Below w.heap.size w w' := by
  have c1 := Lib.hid join_any
  have c4 := Lib.hid alive_any
  have hb0 : Below w.heap.size w (((w.alloc (.cells #[.float .f64 a, .float .f64 b] 35)).alloc (.cells #[.float .f64 c, .float .f64 d] 35)).alloc (.cells #[.float .f64 e, .float .f64 f] 35)) := (((Below.refl _ _).alloc (Nat.le_refl _) _).alloc (by simp) _).alloc (by simp; omega) _
  go_enter Tryd.func7, Tryd.ntmps7
  go_wp2
  go_quiet (fail)
  have hb1 := below_drewN hb0 nq
  clear hb0
  generalize World.drewN _ nq = w1 at hb1 ⊢
  go_wp2_with fail
  refine (c1.out _ _ _ _ _).mono ?_
  rintro e1' w2 ⟨⟨v, rfl, hv⟩, rfl⟩
  obtain ⟨p1, p2, rfl, f1⟩ := joinV_form hv
  clear hv
  obtain ⟨o1, e1⟩ : ∃ o, o = joinW a b c d := ⟨_, rfl⟩
  rw [← e1] at f1 ⊢
  obtain ⟨s1, hs1⟩ : ∃ s, s = o1.isSome := ⟨_, rfl⟩
  rw [← hs1]
  replace f1 := Lib.hid f1
  replace e1 := Lib.hid e1
  replace hs1 := Lib.hid hs1
  go_wp2_with fail
  refine (c1.out _ _ _ _ _).mono ?_
  rintro e2' w3 ⟨⟨v, rfl, hv⟩, rfl⟩
  obtain ⟨q1, q2, rfl, f2⟩ := joinV_form hv
  clear hv
  obtain ⟨o2, e2⟩ : ∃ o, o = joinW p1 p2 e f := ⟨_, rfl⟩
  rw [← e2] at f2 ⊢
  obtain ⟨s2, hs2⟩ : ∃ s, s = o2.isSome := ⟨_, rfl⟩
  rw [← hs2]
  replace f2 := Lib.hid f2
  replace e2 := Lib.hid e2
  replace hs2 := Lib.hid hs2
  go_wp2_with fail
  refine (c1.out _ _ _ _ _).mono ?_
  rintro e3' w4 ⟨⟨v, rfl, hv⟩, rfl⟩
  obtain ⟨u1, u2, rfl, f3⟩ := joinV_form hv
  clear hv
  obtain ⟨o3, e3⟩ : ∃ o, o = joinW c d e f := ⟨_, rfl⟩
  rw [← e3] at f3 ⊢
  obtain ⟨s3, hs3⟩ : ∃ s, s = o3.isSome := ⟨_, rfl⟩
  rw [← hs3]
  replace f3 := Lib.hid f3
  replace e3 := Lib.hid e3
  replace hs3 := Lib.hid hs3
  go_wp2_with fail
  refine (c1.out _ _ _ _ _).mono ?_
  rintro e4' w5 ⟨⟨v, rfl, hv⟩, rfl⟩
  obtain ⟨v1, v2, rfl, f4⟩ := joinV_form hv
  clear hv
  obtain ⟨o4, e4⟩ : ∃ o, o = joinW a b u1 u2 := ⟨_, rfl⟩
  rw [← e4] at f4 ⊢
  obtain ⟨s4, hs4⟩ : ∃ s, s = o4.isSome := ⟨_, rfl⟩
  rw [← hs4]
  replace f4 := Lib.hid f4
  replace e4 := Lib.hid e4
  replace hs4 := Lib.hid hs4
  have hfin : s1 = true → s2 = true → s3 = true → s4 = true → (FloatKind.f64.format.order q1 v1 == some .eq && FloatKind.f64.format.order q2 v2 == some .eq) = true := by
    intro g1 g2 g3 g4
    exact groups_eq e1.out f1.out e2.out f2.out e3.out f3.out e4.out f4.out (by rw [← hs1.out]; exact g1) (by rw [← hs2.out]; exact g2) (by rw [← hs3.out]; exact g3) (by rw [← hs4.out]; exact g4)
  clear f1 f2 f3 f4 e1 e2 e3 e4 hs1 hs2 hs3 hs4
  by_cases hall : s1 = true ∧ s2 = true ∧ s3 = true ∧ s4 = true
  · obtain ⟨rfl, rfl, rfl, rfl⟩ := hall
    have h5 := hfin rfl rfl rfl rfl
    rw [Bool.and_eq_true] at h5
    obtain ⟨h6, h7⟩ := h5
    clear hfin
    go_wp2_with (go_at_call 18; refine (c4.out _).mono ?_; rintro e w3 ⟨rfl, rfl⟩)
    go_ret
    exact ⟨rfl, hb1⟩
  · clear hfin
    have hcase : (s1 = false) ∨ (s1 = true ∧ s2 = false) ∨ (s1 = true ∧ s2 = true ∧ s3 = false) ∨ (s1 = true ∧ s2 = true ∧ s3 = true ∧ s4 = false) := by
      cases s1 <;> cases s2 <;> cases s3 <;> cases s4 <;> simp_all
    clear hall
    rcases hcase with rfl | ⟨rfl, rfl⟩ | ⟨rfl, rfl, rfl⟩ | ⟨rfl, rfl, rfl, rfl⟩
    all_goals
      go_wp2_with (go_at_call 18; refine (c4.out _).mono ?_; rintro e w3 ⟨rfl, rfl⟩)
      go_ret
      exact ⟨rfl, hb1⟩
end Go.Proofs.YtnkmcjkmabjfhaaDoor
