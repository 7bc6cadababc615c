/- The walks of SpotFinds, SpotRises, SpotBack. -/
import Derived.Test.YtnkmcjkmabjfhaaDoorSpotF
namespace Go.Proofs.YtnkmcjkmabjfhaaDoor
open Go.RowKit

theorem tW_some {x y : Nat} {p : Nat × Nat} (h : pairOf x y = some p) (s : Nat × Nat) : tW x y s = decide (s = p) := by unfold tW; rw [h]
theorem tW_none {x y : Nat} (h : pairOf x y = none) (s : Nat × Nat) : tW x y s = false := by unfold tW; rw [h]
set_option maxHeartbeats 1000000 in
theorem spotFinds_any (l : List UInt8) (hl : l.length ≤ 140737488351232) (x y : Nat) (w : World) :
    Calls Tryd.prog 10 #[.string ⟨l.toArray⟩, .float .f64 x, .float .f64 y] w fun e w' => e = .returned (.bool true) ∧ Below w.heap.size w w' := by
  have hz := (zero_of_info zeros26).1
  have c1 := Lib.hid (fun w => find_any l hl x y w)
  have c2 := fun w => ris_any x y w
  have c4 := Lib.hid alive_any
  cases hb : (isP x && isP y) with
  | false =>
    have hn := pairOf_none hb
    rw [hb] at c2
    have hpd : pairD x y = (0, 0) := by unfold pairD; rw [hn]; rfl
    rw [hpd] at c2
    replace c2 := Lib.hid c2
    have hf : ∀ n ok, FindR l.length (fun j => tW x y (spotS (l.take j))) n ok → n = 0 ∧ ok = false := by
      intro n ok h
      refine findR_unique h (.inr ⟨rfl, rfl, fun j _ => tW_none hn _⟩)
    replace hf := Lib.hid hf
    clear hb hn hpd
    go_enter Tryd.func10, Tryd.ntmps10
    go_wp2_with fail
    refine (c1.out _).mono ?_
    rintro e w1 ⟨⟨n, ok, rfl, hR⟩, rfl⟩
    obtain ⟨rfl, rfl⟩ := hf.out n ok hR
    clear hR
    go_wp2_with fail
    refine (c2.out _).mono ?_
    rintro e w1 ⟨rfl, hb1⟩
    go_wp2_with (go_at_call 18; refine (c4.out _).mono ?_; rintro e w3 ⟨rfl, rfl⟩)
    go_ret
    exact ⟨rfl, hb1.alloc hb1.size _⟩
  | true =>
    obtain ⟨p, hp⟩ := pairOf_isP hb
    rw [hb] at c2
    have hpd : pairD x y = p := by unfold pairD; rw [hp]; rfl
    rw [hpd] at c2
    replace c2 := Lib.hid c2
    have c3 := Lib.hid (fun w => rfind_any l hl p w)
    have hf : ∀ n ok m was, FindR l.length (fun j => tW x y (spotS (l.take j))) n ok → FindR l.length (fun j => decide (spotS (l.take j) = p)) m was → n = m ∧ ok = was := by
      intro n ok m was h g
      have e : (fun j => tW x y (spotS (l.take j))) = (fun j => decide (spotS (l.take j) = p)) := funext fun j => tW_some hp _
      rw [e] at h
      exact findR_unique h g
    replace hf := Lib.hid hf
    clear hb hp hpd
    obtain ⟨p1, p2⟩ := p
    go_enter Tryd.func10, Tryd.ntmps10
    go_wp2_with fail
    refine (c1.out _).mono ?_
    rintro e w1 ⟨⟨n, ok, rfl, hR⟩, rfl⟩
    replace hR := Lib.hid hR
    go_wp2_with fail
    refine (c2.out _).mono ?_
    rintro e w1 ⟨rfl, hb1⟩
    go_wp2_with fail
    refine (c3.out _).mono ?_
    rintro e w2 ⟨⟨m, was, rfl, hR2⟩, hb2⟩
    obtain ⟨rfl, rfl⟩ := hf.out n ok m was hR.out hR2
    clear hR hR2
    have e1 : ((n : Int) == (n : Int)) = true := by simp
    have e2 : (ok == ok) = true := by simp
    go_wp2_with (go_at_call 18; refine (c4.out _).mono ?_; rintro e w3 ⟨rfl, rfl⟩)
    go_ret
    have hb3 : Below w.heap.size w (w1.alloc (.cells #[.int .i64 (p1 : Int), .int .i64 (p2 : Int)] 26)) := hb1.alloc hb1.size _
    exact ⟨rfl, hb3.trans (hb2.mono hb3.size)⟩

set_option maxHeartbeats 1000000 in
theorem spotBack_any (l : List UInt8) (hl : l.length ≤ 140737488351232) (n : Int) (w : World) :
    Calls Tryd.prog 12 #[.string ⟨l.toArray⟩, .int .i64 n] w fun e w' => e = .returned (.bool true) ∧ Below w.heap.size w w' := by
  have hsz : (⟨l.toArray⟩ : ByteArray).size = l.length := by simp [ByteArray.size]
  have c4 := Lib.hid alive_any
  by_cases h : n < 0 ∨ (l.length : Int) < n
  · have c1 := Lib.hid (fun w => at_no l (by omega) n h w)
    rcases h with h | h
    · go_enter Tryd.func12, Tryd.ntmps12
      go_wp2_with fail
      refine (c1.out _).mono ?_
      rintro e w1 ⟨rfl, rfl⟩
      go_wp2_with (go_at_call 18; refine (c4.out _).mono ?_; rintro e w3 ⟨rfl, rfl⟩)
      go_ret
      exact ⟨rfl, Below.refl _ _⟩
    · have h0 : ¬ n < 0 := by omega
      go_enter Tryd.func12, Tryd.ntmps12
      go_wp2_with fail
      refine (c1.out _).mono ?_
      rintro e w1 ⟨rfl, rfl⟩
      go_wp2_with (go_at_call 18; refine (c4.out _).mono ?_; rintro e w3 ⟨rfl, rfl⟩)
      go_ret
      exact ⟨rfl, Below.refl _ _⟩
  · obtain ⟨k, rfl⟩ := Int.eq_ofNat_of_zero_le (show 0 ≤ n by omega)
    have hk : k ≤ l.length := by omega
    clear h
    have c1 := Lib.hid (fun w => at_yes l (by omega) k hk w)
    have c2 := Lib.hid (fun a b w => find_any l hl a b w)
    have hle := spotS_take_le l k
    have hf : ∀ a b, IsN a (spotS (l.take k)).1 → IsN b (spotS (l.take k)).2 → ∀ n ok, FindR l.length (fun j => tW a b (spotS (l.take j))) n ok → n = k ∧ ok = true := by
      intro a b ha hb n ok h
      have hp := pairOf_isN ha hb (by omega) (by omega)
      refine findR_unique h (.inl ⟨rfl, hk, ?_, fun j hj => ?_⟩)
      · show tW a b _ = true
        rw [tW_some hp]; simp
      · show tW a b _ = false
        rw [tW_some hp]
        rw [decide_eq_false_iff_not]
        intro e
        have := take_inj l (by omega) hk e
        omega
    replace hf := Lib.hid hf
    clear hle
    go_enter Tryd.func12, Tryd.ntmps12
    go_wp2_with fail
    refine (c1.out _).mono ?_
    rintro e w1 ⟨⟨v, rfl, a, b, rfl, ha, hb⟩, rfl⟩
    replace hf := Lib.hid (hf.out a b ha hb)
    clear ha hb
    go_wp2_with fail
    refine (c2.out _ _ _).mono ?_
    rintro e w1 ⟨⟨n, ok, rfl, hR⟩, rfl⟩
    obtain ⟨rfl, rfl⟩ := hf.out n ok hR
    clear hR
    have e1 : ((n : Int) == (n : Int)) = true := by simp
    go_wp2_with (go_at_call 18; refine (c4.out _).mono ?_; rintro e w3 ⟨rfl, rfl⟩)
    go_ret
    exact ⟨rfl, Below.refl _ _⟩

theorem lessW_of {a b c d : Nat} {p q : Nat × Nat} (ha : IsN a p.1) (hb : IsN b p.2) (hc : IsN c q.1) (hd : IsN d q.2) (h1 : p.1 + p.2 ≤ 1125899906842624) (h2 : q.1 + q.2 ≤ 1125899906842624) : lessW a b c d = lessP p q := by
  unfold lessW
  rw [pairOf_isN ha hb (by omega) (by omega), pairOf_isN hc hd (by omega) (by omega)]
theorem less_at (l : List UInt8) {n m : Nat} (hn : n ≤ l.length) (hm : m ≤ l.length) : lessP (spotS (l.take n)) (spotS (l.take m)) = decide (n < m) := by
  by_cases h : n < m
  · rw [less_take l n m h hm]; simp [h]
  · by_cases e : n = m
    · subst e; rw [less_irrefl]; simp
    · rw [less_asymm (less_take l m n (by omega) hn)]; simp [h]
set_option maxHeartbeats 2000000 in
theorem spotRises_any (l : List UInt8) (hl : l.length ≤ 140737488351232) (n m : Int) (w : World) :
    Calls Tryd.prog 11 #[.string ⟨l.toArray⟩, .int .i64 n, .int .i64 m] w fun e w' => e = .returned (.bool true) ∧ Below w.heap.size w w' := by
  have c4 := Lib.hid alive_any
  by_cases h : n < 0 ∨ (l.length : Int) < n
  · have c1 := Lib.hid (fun w => at_no l (by omega) n h w)
    clear h
    by_cases g : m < 0 ∨ (l.length : Int) < m
    · have c2 := Lib.hid (fun w => at_no l (by omega) m g w)
      clear g
      go_enter Tryd.func11, Tryd.ntmps11
      go_wp2_with fail
      refine (c1.out _).mono ?_
      rintro e w1 ⟨rfl, rfl⟩
      go_wp2_with fail
      refine (c2.out _).mono ?_
      rintro e w1 ⟨rfl, rfl⟩
      go_wp2_with (go_at_call 18; refine (c4.out _).mono ?_; rintro e w3 ⟨rfl, rfl⟩)
      go_ret
      exact ⟨rfl, Below.refl _ _⟩
    · obtain ⟨j, rfl⟩ := Int.eq_ofNat_of_zero_le (show 0 ≤ m by omega)
      have c2 := Lib.hid (fun w => at_yes l (by omega) j (by omega) w)
      clear g
      go_enter Tryd.func11, Tryd.ntmps11
      go_wp2_with fail
      refine (c1.out _).mono ?_
      rintro e w1 ⟨rfl, rfl⟩
      go_wp2_with fail
      refine (c2.out _).mono ?_
      rintro e w1 ⟨⟨v, rfl, _⟩, rfl⟩
      go_wp2_with (go_at_call 18; refine (c4.out _).mono ?_; rintro e w3 ⟨rfl, rfl⟩)
      go_ret
      exact ⟨rfl, Below.refl _ _⟩
  · obtain ⟨i, rfl⟩ := Int.eq_ofNat_of_zero_le (show 0 ≤ n by omega)
    have hi : i ≤ l.length := by omega
    have c1 := Lib.hid (fun w => at_yes l (by omega) i hi w)
    clear h
    by_cases g : m < 0 ∨ (l.length : Int) < m
    · have c2 := Lib.hid (fun w => at_no l (by omega) m g w)
      clear g
      go_enter Tryd.func11, Tryd.ntmps11
      go_wp2_with fail
      refine (c1.out _).mono ?_
      rintro e w1 ⟨⟨v, rfl, _⟩, rfl⟩
      go_wp2_with fail
      refine (c2.out _).mono ?_
      rintro e w1 ⟨rfl, rfl⟩
      go_wp2_with (go_at_call 18; refine (c4.out _).mono ?_; rintro e w3 ⟨rfl, rfl⟩)
      go_ret
      exact ⟨rfl, Below.refl _ _⟩
    · obtain ⟨j, rfl⟩ := Int.eq_ofNat_of_zero_le (show 0 ≤ m by omega)
      have hj : j ≤ l.length := by omega
      have c2 := Lib.hid (fun w => at_yes l (by omega) j hj w)
      clear g
      have l1 := spotS_take_le l i
      have l2 := spotS_take_le l j
      have c5 : ∀ a b c d, IsN a (spotS (l.take i)).1 → IsN b (spotS (l.take i)).2 → IsN c (spotS (l.take j)).1 → IsN d (spotS (l.take j)).2 →
          (∀ w, Calls Tryd.prog 24 #[.complex .f64 a b, .complex .f64 c d] w fun e w' => e = .returned (.bool (decide (i < j))) ∧ w = w') ∧
          (∀ w, Calls Tryd.prog 24 #[.complex .f64 c d, .complex .f64 a b] w fun e w' => e = .returned (.bool (decide (j < i))) ∧ w = w') ∧
          (FloatKind.f64.format.order a c == some .eq && FloatKind.f64.format.order b d == some .eq) = decide (i = j) := by
        intro a b c d ha hb hc hd
        refine ⟨fun w => ?_, fun w => ?_, ?_⟩
        · have := less_any a b c d w
          rwa [lessW_of ha hb hc hd (by omega) (by omega), less_at l hi hj] at this
        · have := less_any c d a b w
          rwa [lessW_of hc hd ha hb (by omega) (by omega), less_at l hj hi] at this
        · rw [eq_isN ha hc, eq_isN hb hd, Bool.eq_iff_iff]
          simp only [Bool.and_eq_true, decide_eq_true_eq]
          constructor
          · rintro ⟨h1, h2⟩; exact take_inj l hi hj (Prod.ext h1 h2)
          · rintro rfl; exact ⟨rfl, rfl⟩
      replace c5 := Lib.hid c5
      clear l1 l2
      go_enter Tryd.func11, Tryd.ntmps11
      go_wp2_with fail
      refine (c1.out _).mono ?_
      rintro e w1 ⟨⟨v, rfl, a, b, rfl, ha, hb⟩, rfl⟩
      replace ha := Lib.hid ha
      replace hb := Lib.hid hb
      go_wp2_with fail
      refine (c2.out _).mono ?_
      rintro e w1 ⟨⟨v, rfl, c, d, rfl, hc, hd⟩, rfl⟩
      obtain ⟨k1, k2, k3⟩ := c5.out a b c d ha.out hb.out hc hd
      replace k1 := Lib.hid k1
      replace k2 := Lib.hid k2
      clear ha hb hc hd c5
      go_wp2_with fail
      refine (k1.out _).mono ?_
      rintro e w1 ⟨rfl, rfl⟩
      have q1 : ((decide (i < j)) == (decide (i < j))) = true := by simp
      have q2 : ((decide (j < i)) == (decide (j < i))) = true := by simp
      have q3 : ((decide (i = j)) == (decide (i = j))) = true := by simp
      have q4 : ((i : Int) == (j : Int)) = decide (i = j) := by
        rw [Bool.eq_iff_iff, beq_iff_eq, decide_eq_true_eq]; omega
      go_wp2_with fail
      refine (k2.out _).mono ?_
      rintro e w1 ⟨rfl, rfl⟩
      go_wp2_with (go_at_call 18; refine (c4.out _).mono ?_; rintro e w3 ⟨rfl, rfl⟩)
      go_ret
      exact ⟨rfl, Below.refl _ _⟩
end Go.Proofs.YtnkmcjkmabjfhaaDoor
