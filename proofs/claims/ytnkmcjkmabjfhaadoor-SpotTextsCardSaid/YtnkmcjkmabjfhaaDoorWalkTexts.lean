/- The walk of SpotTexts. -/
import Derived.Test.YtnkmcjkmabjfhaaDoorSpotQ
import Derived.Test.YtnkmcjkmabjfhaaDoorWalkJoins
namespace Go.Proofs.YtnkmcjkmabjfhaaDoor
open Go.RowKit

theorem joinV_isN {o : Option (Nat × Nat)} {v : Value} (h : JoinV o v) : ∃ a b, v = .complex .f64 a b ∧ IsN a (o.getD (0, 0)).1 ∧ IsN b (o.getD (0, 0)).2 := by
  cases o with
  | none => exact ⟨0, 0, h, zero_isN, zero_isN⟩
  | some r => exact h
theorem parseS_le (l : List UInt8) : ((parseS l).getD (0, 0)).1 ≤ 1125899906842624 ∧ ((parseS l).getD (0, 0)).2 ≤ 1125899906842624 := by
  rcases indexByte_cases l 58 with ⟨_, h2⟩ | ⟨x, y, rfl, h2, _⟩
  · rw [parseS_none l h2]; simp
  · rw [parseS_app x y h2]
    cases hx : numS x with
    | none => simp
    | some n =>
      cases hy : numS y with
      | none => simp
      | some m => exact ⟨(numS_some hx).2.1, (numS_some hy).2.1⟩
set_option maxRecDepth 100000 in
set_option maxHeartbeats 4000000 in
theorem spotTexts_any (a b : Nat) (l : List UInt8) (hl : l.length ≤ 140737488351232) (w : World) (hT : TabK w) (hE : ErrK w) :
    Calls Tryd.prog 13 #[.float .f64 a, .float .f64 b, .string ⟨l.toArray⟩] w fun e w' => e = .returned (.bool true) ∧ Below w.heap.size w w' := by
  have hz := (zero_of_info zeros26).1
  have c1 := fun w => ris_any a b w
  have c2 := Lib.hid (fun w hT hE => parse_any l hl w hT hE)
  have c3 := Lib.hid (fun w => rparse_any l hl w)
  have c5 := Lib.hid alive_any
  have hle := parseS_le l
  obtain ⟨q, hq⟩ : ∃ q, q = (parseS l).getD (0, 0) := ⟨_, rfl⟩
  obtain ⟨z, hzz⟩ : ∃ z, z = (parseS l).isSome := ⟨_, rfl⟩
  rw [← hq] at c3 hle
  rw [← hzz] at c2 c3
  have c6 := Lib.hid (fun x y hx hy w => islaw_any x y q q hx hy (by omega) (by omega) w)
  have hjv : ∀ v, JoinV (parseS l) v → ∃ x y, v = .complex .f64 x y ∧ IsN x q.1 ∧ IsN y q.2 := fun v h => by rw [hq]; exact joinV_isN h
  replace hjv := Lib.hid hjv
  generalize (⟨l.toArray⟩ : ByteArray) = s at *
  have hzb : (z == z) = true := by simp
  clear hq hzz hle hl
  replace hE := Lib.hid hE
  cases hp : pairOf a b with
  | none =>
    rw [isP_none hp, pairD_none hp] at c1
    replace c1 := Lib.hid c1
    have c4 := Lib.hid (fun w => text_no a b hp w)
    clear hp
    obtain ⟨q1, q2⟩ := q
    go_enter Tryd.func13, Tryd.ntmps13
    go_wp2_with fail
    refine (c1.out _).mono ?_
    rintro e w1 ⟨rfl, hb1⟩
    have hb1' : Below w.heap.size w (w1.alloc (.cells #[.int .i64 0, .int .i64 0] 26)) := hb1.alloc hb1.size _
    go_wp2_with fail
    refine (c2.out _ (tabK_below hT hb1') (errK_below hE.out hb1')).mono ?_
    rintro e w2 ⟨⟨v, rfl, hv⟩, hb2⟩
    obtain ⟨x, y, rfl, hx, hy⟩ := hjv.out v hv
    replace c6 := Lib.hid (c6.out x y hx hy)
    have hbw2 := hb1'.trans (hb2.mono hb1'.size)
    clear hv hx hy hb1 hb1' hb2
    go_wp2_with fail
    refine (c3.out _).mono ?_
    rintro e w3 ⟨rfl, hb3⟩
    have hbw3 := hbw2.trans (hb3.mono hbw2.size)
    clear hbw2 hb3
    go_wp2_with fail
    refine (c4.out _).mono ?_
    rintro e w4 ⟨rfl, rfl⟩
    go_wp2_with fail
    refine (c6.out _).mono ?_
    rintro e w5 ⟨rfl, hb5⟩
    simp only [decide_true]
    go_wp2_with fail
    refine (c5.out _).mono ?_
    rintro e w6 ⟨rfl, rfl⟩
    go_wp2
    go_ret
    have hb6 := hbw3.alloc hbw3.size (.cells #[.int .i64 (q1 : Int), .int .i64 (q2 : Int)] 26)
    exact ⟨rfl, hb6.trans (hb5.mono hb6.size)⟩
  | some p =>
    obtain ⟨g1, g2⟩ := pairOf_some hp
    have l1 := (partOf_isN g1).2
    have l2 := (partOf_isN g2).2
    rw [pow50] at l1 l2
    rw [isP_some hp, pairD_some hp] at c1
    replace c1 := Lib.hid c1
    have c4 := Lib.hid (fun w hT => text_yes a b p hp w hT)
    have c7 := Lib.hid (fun w => rtext_any p l1 l2 w)
    generalize (⟨(textS p).toArray⟩ : ByteArray) = t at *
    have htt : (t.toList == t.toList) = true := by simp
    clear hp g1 g2 l1 l2
    obtain ⟨q1, q2⟩ := q
    obtain ⟨p1, p2⟩ := p
    go_enter Tryd.func13, Tryd.ntmps13
    go_wp2_with fail
    refine (c1.out _).mono ?_
    rintro e w1 ⟨rfl, hb1⟩
    have hb1' : Below w.heap.size w (w1.alloc (.cells #[.int .i64 (p1 : Int), .int .i64 (p2 : Int)] 26)) := hb1.alloc hb1.size _
    go_wp2_with fail
    refine (c7.out _).mono ?_
    rintro e w7 ⟨rfl, hb7⟩
    have hbw7 := hb1'.trans (hb7.mono hb1'.size)
    clear hb1 hb1' hb7
    go_wp2_with fail
    refine (c2.out _ (tabK_below hT hbw7) (errK_below hE.out hbw7)).mono ?_
    rintro e w2 ⟨⟨v, rfl, hv⟩, hb2⟩
    obtain ⟨x, y, rfl, hx, hy⟩ := hjv.out v hv
    replace c6 := Lib.hid (c6.out x y hx hy)
    have hbw2 := hbw7.trans (hb2.mono hbw7.size)
    clear hv hx hy hbw7 hb2
    go_wp2_with fail
    refine (c3.out _).mono ?_
    rintro e w3 ⟨rfl, hb3⟩
    have hbw3 := hbw2.trans (hb3.mono hbw2.size)
    clear hbw2 hb3
    have hb6 := hbw3.alloc hbw3.size (.cells #[.int .i64 (q1 : Int), .int .i64 (q2 : Int)] 26)
    go_wp2_with fail
    refine (c4.out _ (tabK_below hT hb6)).mono ?_
    rintro e w4 ⟨rfl, hb4⟩
    obtain ⟨m0, m1, _, _⟩ := after_spot hb4
    have hbw4 := hb6.trans (hb4.mono hb6.size)
    clear hb6 hb4 hbw3
    go_wp2_with fail
    refine (c6.out _).mono ?_
    rintro e w5 ⟨rfl, hb5⟩
    simp only [decide_true]
    go_wp2_with fail
    refine (c5.out _).mono ?_
    rintro e w6 ⟨rfl, rfl⟩
    go_wp2
    go_ret
    exact ⟨rfl, hbw4.trans (hb5.mono hbw4.size)⟩
end Go.Proofs.YtnkmcjkmabjfhaaDoor
