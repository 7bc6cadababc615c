/- The walk of SpotReads. -/
import Derived.Test.YtnkmcjkmabjfhaaDoorSpotT
namespace Go.Proofs.YtnkmcjkmabjfhaaDoor
open Go.RowKit

theorem no_colon (n : Nat) : (58 : UInt8) ∉ Lib.decDigits n := by
  intro h
  have := dec_all n
  unfold allDig at this
  have := List.all_eq_true.1 this 58 h
  simp [isDig] at this
theorem index_app (x y : List UInt8) (h : (58 : UInt8) ∉ x) : Lib.indexByte (x ++ 58 :: y) 58 = (x.length : Int) := by
  rcases indexByte_cases (x ++ 58 :: y) 58 with ⟨_, h2⟩ | ⟨a, b, h1, h2, h3⟩
  · exact absurd (by simp) h2
  · rw [h3]
    have : a = x := by
      clear h3
      induction x generalizing a with
      | nil =>
        cases a with
        | nil => rfl
        | cons c a => simp at h1; exact absurd (by rw [← h1.1]; simp) h2
      | cons c x ih =>
        cases a with
        | nil => simp at h1; exact absurd (by rw [h1.1]; simp) h
        | cons d a =>
          simp at h1 h h2
          rw [h1.1, ih h.2 a h1.2 h2.2]
    rw [this]
set_option maxHeartbeats 1000000 in
theorem parse_text (p : Nat × Nat) (h1 : p.1 ≤ 1125899906842624) (h2 : p.2 ≤ 1125899906842624) (w : World) (hT : TabK w) :
    Calls Tryd.prog 29 #[.string ⟨(textS p).toArray⟩] w fun e w' => (∃ v, e = .returned (.tuple #[v, .bool true]) ∧ SpotV v p) ∧ Below w.heap.size w w' := by
  have d1 := dec_len h1
  have d2 := dec_len h2
  have c1 := fun w => cut_yes (Lib.decDigits p.1) (Lib.decDigits p.2) (by simp; omega) (index_app _ _ (no_colon _)) w
  have c2 := Lib.hid (fun w hT => number_yes p.1 h1 w hT)
  have c3 := Lib.hid (fun w hT => number_yes p.2 h2 w hT)
  replace c1 : ∀ w, Calls Tryd.prog 36 #[.string ⟨(textS p).toArray⟩, .string ⟨#[58]⟩] w _ := c1
  generalize (⟨(textS p).toArray⟩ : ByteArray) = s at *
  generalize (⟨(Lib.decDigits p.1).toArray⟩ : ByteArray) = s1 at *
  generalize (⟨(Lib.decDigits p.2).toArray⟩ : ByteArray) = s2 at *
  replace c1 := Lib.hid c1
  clear d1 d2 h1 h2
  go_enter Tryd.func29, Tryd.ntmps29
  go_wp2_with fail
  refine (c1.out _).mono ?_
  rintro e w1 ⟨rfl, hb1⟩
  have hT1 := tabK_below hT hb1
  go_wp2_with fail
  refine (c2.out _ hT1).mono ?_
  rintro e w2 ⟨⟨a, rfl, ha⟩, hb2⟩
  have hT2 := tabK_below hT1 hb2
  replace ha := Lib.hid ha
  go_wp2_with fail
  refine (c3.out _ hT2).mono ?_
  rintro e w3 ⟨⟨b, rfl, hb⟩, hb3⟩
  replace hb := Lib.hid hb
  go_wp2
  go_ret2
  have k2 := hb1.trans (hb2.mono hb1.size)
  exact ⟨⟨.complex .f64 a b, rfl, a, b, rfl, ha.out, hb.out⟩, k2.trans (hb3.mono k2.size)⟩
set_option maxHeartbeats 1000000 in
theorem parse_empty (w : World) :
    Calls Tryd.prog 29 #[.string ⟨#[]⟩] w fun e w' => e = .returned (.tuple #[.complex .f64 0 0, .bool false]) ∧ w = w' := by
  have c1 := Lib.hid (fun w => cut_no [] rfl w)
  go_enter Tryd.func29, Tryd.ntmps29
  go_wp2_with fail
  refine (c1.out _).mono ?_
  rintro e w1 ⟨rfl, rfl⟩
  go_wp2
  go_ret2
  exact ⟨rfl, rfl⟩
set_option maxHeartbeats 1000000 in
theorem spotReads_any (a b : Nat) (w : World) (hT : TabK w) :
    Calls Tryd.prog 14 #[.float .f64 a, .float .f64 b] w fun e w' => e = .returned (.bool true) ∧ Below w.heap.size w w' := by
  have c3 := fun w => is_any a b w
  have c4 := Lib.hid alive_any
  cases hp : pairOf a b with
  | none =>
    have hi : (isP a && isP b) = false := by
      cases hb : (isP a && isP b) with
      | false => rfl
      | true => obtain ⟨p, hp2⟩ := pairOf_isP hb; rw [hp] at hp2; cases hp2
    rw [hi] at c3
    replace c3 := Lib.hid c3
    have c1 := Lib.hid (fun w => text_no a b hp w)
    have c2 := Lib.hid parse_empty
    clear hi hp
    go_enter Tryd.func14, Tryd.ntmps14
    go_wp2_with fail
    refine (c1.out _).mono ?_
    rintro e w1 ⟨rfl, rfl⟩
    go_wp2_with fail
    refine (c2.out _).mono ?_
    rintro e w1 ⟨rfl, rfl⟩
    go_wp2_with fail
    refine (c3.out _).mono ?_
    rintro e w1 ⟨rfl, rfl⟩
    go_wp2_with (go_at_call 18; refine (c4.out _).mono ?_; rintro e w3 ⟨rfl, rfl⟩)
    go_ret
    exact ⟨rfl, Below.refl _ _⟩
  | some p =>
    obtain ⟨g1, g2⟩ := pairOf_some hp
    obtain ⟨n1, l1⟩ := partOf_isN g1
    obtain ⟨n2, l2⟩ := partOf_isN g2
    rw [pow50] at l1 l2
    have hi : (isP a && isP b) = true := by unfold isP; rw [g1, g2]; rfl
    rw [hi] at c3
    replace c3 := Lib.hid c3
    have c1 := Lib.hid (fun w hT => text_yes a b p hp w hT)
    have c2 := Lib.hid (fun w hT => parse_text p l1 l2 w hT)
    have hq : ∀ x y, IsN x p.1 → IsN y p.2 → (FloatKind.f64.format.order x a == some .eq) = true ∧ (FloatKind.f64.format.order y b == some .eq) = true := by
      intro x y hx hy
      rw [eq_isN hx n1, eq_isN hy n2]; simp
    replace hq := Lib.hid hq
    clear hi hp g1 g2 n1 n2 l1 l2
    generalize (⟨(textS p).toArray⟩ : ByteArray) = s at *
    go_enter Tryd.func14, Tryd.ntmps14
    go_wp2_with fail
    refine (c1.out _ hT).mono ?_
    rintro e w1 ⟨rfl, hb1⟩
    have hT1 := tabK_below hT hb1
    go_wp2_with fail
    refine (c2.out _ hT1).mono ?_
    rintro e w2 ⟨⟨v, rfl, x, y, rfl, hx, hy⟩, hb2⟩
    obtain ⟨q1, q2⟩ := hq.out x y hx hy
    clear hx hy
    go_wp2_with fail
    refine (c3.out _).mono ?_
    rintro e w3 ⟨rfl, rfl⟩
    go_wp2_with (go_at_call 18; refine (c4.out _).mono ?_; rintro e w3 ⟨rfl, rfl⟩)
    go_ret
    exact ⟨rfl, hb1.trans (hb2.mono hb1.size)⟩
end Go.Proofs.YtnkmcjkmabjfhaaDoor
