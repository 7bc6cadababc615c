/- The walks of SpotOf, SpotIs, SpotAdds, SpotAts. -/
import Derived.Test.YtnkmcjkmabjfhaaDoorSpotV
import Derived.Laws.Concat
namespace Go.Proofs.YtnkmcjkmabjfhaaDoor
open Go.RowKit

set_option maxHeartbeats 1000000 in
theorem spotOf_any (l : List UInt8) (hl : l.length ≤ 140737488351232) (w : World) :
    Calls Tryd.prog 3 #[.string ⟨l.toArray⟩] w fun e w' => e = .returned (.bool true) ∧ Below w.heap.size w w' := by
  have c1 := Lib.hid (fun w => of_any l (by omega) w)
  have c2 := Lib.hid (fun w => rof_any l (by omega) w)
  have hle := spotS_le l
  generalize spotS l = p at *
  have c3 := Lib.hid (fun a b ha hb w => islaw_any a b p p ha hb (by omega) (by omega) w)
  have c4 := Lib.hid alive_any
  clear hle hl
  go_enter Tryd.func3, Tryd.ntmps3
  go_wp2_with fail
  refine (c1.out _).mono ?_
  rintro e w1 ⟨⟨v, rfl, a, b, rfl, ha, hb⟩, rfl⟩
  replace c3 := Lib.hid (c3.out a b ha hb)
  clear ha hb
  go_wp2_with fail
  refine (c2.out _).mono ?_
  rintro e w1 ⟨rfl, hb1⟩
  go_wp2_with fail
  refine (c3.out _).mono ?_
  rintro e w2 ⟨rfl, hb2⟩
  simp only [decide_true]
  go_wp2_with fail
  refine (c4.out _).mono ?_
  rintro e w3 ⟨rfl, rfl⟩
  go_wp2
  go_ret
  exact ⟨rfl, hb1.trans (hb2.mono hb1.size)⟩

set_option maxHeartbeats 1000000 in
theorem spotIs_any (a b : Nat) (w : World) :
    Calls Tryd.prog 4 #[.float .f64 a, .float .f64 b] w fun e w' => e = .returned (.bool true) ∧ Below w.heap.size w w' := by
  have c1 := Lib.hid (fun w => ris_any a b w)
  have c2 := Lib.hid (fun w => is_any a b w)
  have c4 := Lib.hid alive_any
  have hz := (zero_of_info zeros26).1
  generalize (isP a && isP b) = x at *
  obtain ⟨p, hp⟩ : ∃ p, p = pairD a b := ⟨_, rfl⟩
  rw [← hp] at c1
  clear hp
  go_enter Tryd.func4, Tryd.ntmps4
  go_wp2_with fail
  refine (c1.out _).mono ?_
  rintro e w1 ⟨rfl, hb1⟩
  go_wp2_with fail
  refine (c2.out _).mono ?_
  rintro e w2 ⟨rfl, rfl⟩
  have hx : (x == x) = true := by simp
  go_wp2_with (go_at_call 18; refine (c4.out _).mono ?_; rintro e w3 ⟨rfl, rfl⟩)
  go_ret
  exact ⟨rfl, hb1.alloc hb1.size _⟩

theorem str_append (a b : List UInt8) : (⟨a.toArray⟩ : ByteArray) ++ (⟨b.toArray⟩ : ByteArray) = ⟨(a ++ b).toArray⟩ := by
  apply ByteArray.ext
  simp [ByteArray.data_append]
theorem pairOf_isN {a b : Nat} {p : Nat × Nat} (ha : IsN a p.1) (hb : IsN b p.2) (h1 : p.1 ≤ 1125899906842624) (h2 : p.2 ≤ 1125899906842624) : pairOf a b = some p := by
  unfold pairOf
  rw [isN_partOf ha h1, isN_partOf hb h2]
theorem joinO_some {p q : Nat × Nat} (h1 : p.1 + q.1 ≤ 1125899906842624) (h2 : p.2 + q.2 ≤ 1125899906842624) : joinO p q = some (joinS p q) := by
  unfold joinO
  rw [if_pos]
  unfold joinS
  split <;> simp <;> omega
set_option maxHeartbeats 1000000 in
theorem spotAdds_any (x y : List UInt8) (hx : x.length ≤ 140737488351232) (hy : y.length ≤ 140737488351232) (w : World) :
    Calls Tryd.prog 6 #[.string ⟨x.toArray⟩, .string ⟨y.toArray⟩] w fun e w' => e = .returned (.bool true) ∧ Below w.heap.size w w' := by
  have c1 := Lib.hid (fun w => of_any x (by omega) w)
  have c2 := Lib.hid (fun w => of_any y (by omega) w)
  have c3 := fun w => of_any (x ++ y) (by simp; omega) w
  rw [spotS_append] at c3
  replace c3 := Lib.hid c3
  have h1 := spotS_le x
  have h2 := spotS_le y
  have c4 := Lib.hid alive_any
  have hsum : (⟨x.toArray⟩ : ByteArray).size + (⟨y.toArray⟩ : ByteArray).size ≤ 9223372036854775807 := by simp [ByteArray.size]; omega
  have hadd := fun w => run_string_add_sum (P := Tryd.prog) w ⟨x.toArray⟩ ⟨y.toArray⟩ hsum
  rw [str_append] at hadd
  have hj : joinO (spotS x) (spotS y) = some (joinS (spotS x) (spotS y)) := joinO_some (by omega) (by omega)
  generalize spotS x = p at *
  generalize spotS y = q at *
  have c5 : ∀ a b c d, IsN a p.1 → IsN b p.2 → IsN c q.1 → IsN d q.2 → ∀ w, _ := fun a b c d ha hb hc hd w => join_yes a b c d p q (pairOf_isN ha hb (by omega) (by omega)) (pairOf_isN hc hd (by omega) (by omega)) w
  rw [hj] at c5
  replace c5 := Lib.hid c5
  clear h1 h2 hsum hj hx hy
  go_enter Tryd.func6, Tryd.ntmps6
  go_wp2_with fail
  refine (c1.out _).mono ?_
  rintro e w1 ⟨⟨v, rfl, a, b, rfl, ha, hb⟩, rfl⟩
  replace ha := Lib.hid ha
  replace hb := Lib.hid hb
  go_wp2_with fail
  refine (c2.out _).mono ?_
  rintro e w1 ⟨⟨v, rfl, c, d, rfl, hc, hd⟩, rfl⟩
  replace c5 := Lib.hid (c5.out a b c d ha.out hb.out hc hd)
  clear ha hb hc hd
  go_wp2_with fail
  refine (c5.out _).mono ?_
  rintro e w1 ⟨⟨v, rfl, a1, b1, rfl, ha, hb⟩, rfl⟩
  replace ha := Lib.hid ha
  replace hb := Lib.hid hb
  go_wp2_with fail
  refine (c3.out _).mono ?_
  rintro e w1 ⟨⟨v, rfl, a2, b2, rfl, hc, hd⟩, rfl⟩
  have e1 := eq_isN ha.out hc
  have e2 := eq_isN hb.out hd
  simp only [decide_true] at e1 e2
  clear ha hb hc hd
  go_wp2_with (go_at_call 18; refine (c4.out _).mono ?_; rintro e w3 ⟨rfl, rfl⟩)
  go_ret
  exact ⟨rfl, Below.refl _ _⟩
theorem eq_zero : (FloatKind.f64.format.order 0 0 == some .eq) = true := by
  have := eq_isN zero_isN zero_isN
  simpa using this
set_option maxHeartbeats 1000000 in
theorem spotAts_any (l : List UInt8) (hl : l.length ≤ 140737488351232) (n : Int) (w : World) :
    Calls Tryd.prog 8 #[.string ⟨l.toArray⟩, .int .i64 n] w fun e w' => e = .returned (.bool true) ∧ Below w.heap.size w w' := by
  have hsz : (⟨l.toArray⟩ : ByteArray).size = l.length := by simp [ByteArray.size]
  have c4 := Lib.hid alive_any
  by_cases h : n < 0 ∨ (l.length : Int) < n
  · have c1 := Lib.hid (fun w => at_no l (by omega) n h w)
    have hz := eq_zero
    rcases h with h | h
    · go_enter Tryd.func8, Tryd.ntmps8
      go_wp2_with fail
      refine (c1.out _).mono ?_
      rintro e w1 ⟨rfl, rfl⟩
      go_wp2_with (go_at_call 18; refine (c4.out _).mono ?_; rintro e w3 ⟨rfl, rfl⟩)
      go_ret
      exact ⟨rfl, Below.refl _ _⟩
    · have h0 : ¬ n < 0 := by omega
      go_enter Tryd.func8, Tryd.ntmps8
      go_wp2_with fail
      refine (c1.out _).mono ?_
      rintro e w1 ⟨rfl, rfl⟩
      go_wp2_with (go_at_call 18; refine (c4.out _).mono ?_; rintro e w3 ⟨rfl, rfl⟩)
      go_ret
      exact ⟨rfl, Below.refl _ _⟩
  · obtain ⟨k, rfl⟩ := Int.eq_ofNat_of_zero_le (show 0 ≤ n by omega)
    have hk : k ≤ l.length := by omega
    clear h
    have c1 := Lib.hid (fun w => at_yes l (by omega) k hk w)
    have c2 := Lib.hid (fun w => rof_any (l.take k) (by simp; omega) w)
    have hle := spotS_take_le l k
    generalize spotS (l.take k) = p at *
    have c3 := Lib.hid (fun a b ha hb w => islaw_any a b p p ha hb (by omega) (by omega) w)
    have hex := extract_take l k
    clear hle
    go_enter Tryd.func8, Tryd.ntmps8
    go_wp2_with fail
    refine (c1.out _).mono ?_
    rintro e w1 ⟨⟨v, rfl, a, b, rfl, ha, hb⟩, rfl⟩
    replace c3 := Lib.hid (c3.out a b ha hb)
    clear ha hb
    go_wp2_with fail
    refine (c2.out _).mono ?_
    rintro e w1 ⟨rfl, hb1⟩
    go_wp2_with fail
    refine (c3.out _).mono ?_
    rintro e w2 ⟨rfl, hb2⟩
    simp only [decide_true]
    go_wp2_with fail
    refine (c4.out _).mono ?_
    rintro e w3 ⟨rfl, rfl⟩
    go_wp2
    go_ret
    exact ⟨rfl, hb1.trans (hb2.mono hb1.size)⟩
end Go.Proofs.YtnkmcjkmabjfhaaDoor
