/- The walks of the reference's Of, Less, and of At and Less. -/
import Derived.Test.YtnkmcjkmabjfhaaDoorSpotZ
namespace Go.Proofs.YtnkmcjkmabjfhaaDoor
open Go.RowKit

/-- The cells of a spot of the reference's. -/
def cellsS (p : Nat × Nat) : List Value := [.int .i64 (p.1 : Int), .int .i64 (p.2 : Int)]
def RO (w : World) (p : Nat × Nat) (wr : World) : Prop :=
  Blk wr w.heap.size 26 (cellsS (0, 0)) ∧ Blk wr (w.heap.size + 1) 26 (cellsS p) ∧ Below w.heap.size w wr
theorem ro_col {w wr : World} {p : Nat × Nat} (h : RO w p wr) : RO w (p.1, p.2 + 1) (wr.setCell ⟨w.heap.size + 1, 1, none⟩ (.int .i64 ((p.2 : Int) + 1))) :=
  ⟨h.1.far (by simp) _, h.2.1.set_ 1 _, h.2.2.setCell (by simp) _⟩
theorem ro_line {w wr : World} {p : Nat × Nat} (h : RO w p wr) : RO w (p.1 + 1, 0) (((wr.setCell ⟨w.heap.size + 1, 1, none⟩ (.int .i64 ((p.2 : Int) + 1))).setCell ⟨w.heap.size + 1, 0, none⟩ (.int .i64 ((p.1 : Int) + 1))).setCell ⟨w.heap.size + 1, 1, none⟩ (.int .i64 0)) := by
  refine ⟨((h.1.far (by simp) _).far (by simp) _).far (by simp) _, ?_, ((h.2.2.setCell (by simp) _).setCell (by simp) _).setCell (by simp) _⟩
  exact ((h.2.1.set_ 1 _).set_ 0 _).set_ 1 _
set_option maxHeartbeats 1000000 in
theorem rof_any (l : List UInt8) (hl : l.length ≤ 2251799813685248) (w : World) :
    Calls Tryd.prog 17 #[.string ⟨l.toArray⟩] w fun e w' => e = .returned (SV (spotS l)) ∧ Below w.heap.size w w' := by
  have hsz : (⟨l.toArray⟩ : ByteArray).size = l.length := by simp [ByteArray.size]
  have hz := (zero_of_info zeros26).1
  obtain ⟨n, hn⟩ : ∃ n, n = l.length := ⟨_, rfl⟩
  rw [← hn] at hsz hl
  replace hn := Lib.hid hn
  go_enter Tryd.func17, Tryd.ntmps17
  go_wp2
  have hS : RO w (0, 0) ((w.alloc (.cells #[.int .i64 0, .int .i64 0] 26)).alloc (.cells #[.int .i64 0, .int .i64 0] 26)) :=
    ⟨(Blk.new_at (cs := cellsS (0, 0)) rfl).alloc _, Blk.new_at (cs := cellsS (0, 0)) (by simp), ((Below.refl _ _).alloc (Nat.le_refl _) _).alloc (by simp) _⟩
  generalize World.alloc (World.alloc _ _) _ = w0 at hS ⊢
  go_loopw [4] (fun i wr => ∃ k : Nat, k ≤ n ∧ i = .int .i64 (k : Int) ∧ RO w (spotS (l.take k)) wr) (fun i _ => n - (intOf i).toNat)
  case atStart => exact ⟨0, Nat.zero_le _, rfl, hS⟩
  case round =>
    clear hS
    obtain ⟨k, hk, rfl, hM⟩ := hrel
    by_cases hlt : k < n
    · have hkl : k < l.length := by rw [← hn.out]; exact hlt
      have hidx := index_str l k hkl
      have hst := spotS_take l k hkl
      obtain ⟨c, hc⟩ : ∃ c, c = l.getD k 0 := ⟨_, rfl⟩
      rw [← hc] at hidx hst
      have hle := spotS_take_le l k
      rw [← hn.out] at hle
      obtain ⟨p, hp⟩ : ∃ p, p = spotS (l.take k) := ⟨_, rfl⟩
      rw [← hp] at hle hM hst
      have hp1 : p.1 ≤ 2251799813685248 := by omega
      have hp2 : p.2 ≤ 2251799813685248 := by omega
      have hc0 : wr.cell? ⟨w.heap.size + 1, 0, none⟩ = some (.int .i64 (p.1 : Int)) := by rw [hM.2.1.cell]; rfl
      have hc1 : wr.cell? ⟨w.heap.size + 1, 1, none⟩ = some (.int .i64 (p.2 : Int)) := by rw [hM.2.1.cell]; rfl
      have hf0 := hM.2.1.frozen 0
      have hf1 := hM.2.1.frozen 1
      replace hc := Lib.hid hc
      replace hp := Lib.hid hp
      replace hst := Lib.hid hst
      clear hle
      by_cases h10 : c = 10
      · have hb10 : (bv c == 10) = true := by rw [h10]; rfl
        have h10' := Lib.hid h10
        clear h10
        go_wp2
        go_roundw
        case rel =>
          refine ⟨k + 1, by omega, by go_num, ?_⟩
          rw [hst.out, stepS, if_pos h10'.out]
          exact ro_line hM
        case measure => simp [intOf]; omega
      · have hb10 : (bv c == 10) = false := by rw [beq_eq_false_iff_ne]; intro h2; exact h10 (bv_inj (y := 10) h2)
        have h10' := Lib.hid h10
        clear h10
        go_wp2
        go_roundw
        case rel =>
          refine ⟨k + 1, by omega, by go_num, ?_⟩
          rw [hst.out, stepS, if_neg h10'.out]
          exact ro_col hM
        case measure => simp [intOf]; omega
    · have hkn : k = n := by omega
      have hge : n ≤ k := by omega
      rw [hkn, hn.out, List.take_length] at hM
      clear hkn
      go_wp2_with (first
        | (refine wpList_load_blk rfl 26 (.tmp 3) rfl (w.heap.size + 1) rfl 26 (cellsS (spotS l)) hM.2.1 _ Tryd.underlying26 rfl (by kernel_rfl) ?_)
        | (refine wpList_store_blk rfl 26 (.tmp 2) (.tmp 25) rfl w.heap.size (cellsS (spotS l)) rfl rfl 26 (cellsS (0, 0)) hM.1 rfl (by kernel_rfl) (by intro v hv; simp [cellsS] at hv; rcases hv with rfl | rfl <;> rfl) ?_))
      refine ret_blk Tryd.results17 w.heap.size 26 (cellsS (spotS l)) _ rfl (hM.1.setRow_same _) Tryd.underlying26 rfl (by kernel_rfl) rfl ?_
      exact ⟨rfl, below_setRow hM.2.2 (Nat.le_refl _) _⟩

theorem extract_take (l : List UInt8) (n : Nat) : (⟨l.toArray⟩ : ByteArray).extract 0 n = ⟨(l.take n).toArray⟩ := by
  apply ByteArray.ext
  simp [ByteArray.data_extract]
set_option maxHeartbeats 1000000 in
theorem at_no (l : List UInt8) (hl : l.length ≤ 2251799813685248) (n : Int) (h : n < 0 ∨ (l.length : Int) < n) (w : World) :
    Calls Tryd.prog 23 #[.string ⟨l.toArray⟩, .int .i64 n] w fun e w' => e = .returned (.tuple #[.complex .f64 0 0, .bool false]) ∧ w = w' := by
  have hsz : (⟨l.toArray⟩ : ByteArray).size = l.length := by simp [ByteArray.size]
  rcases h with h | h
  · go_enter Tryd.func23, Tryd.ntmps23
    go_wp2
    go_ret2
    exact ⟨rfl, rfl⟩
  · have h0 : ¬ n < 0 := by omega
    go_enter Tryd.func23, Tryd.ntmps23
    go_wp2
    go_ret2
    exact ⟨rfl, rfl⟩
set_option maxHeartbeats 1000000 in
theorem at_yes (l : List UInt8) (hl : l.length ≤ 2251799813685248) (n : Nat) (h : n ≤ l.length) (w : World) :
    Calls Tryd.prog 23 #[.string ⟨l.toArray⟩, .int .i64 (n : Int)] w fun e w' => (∃ v, e = .returned (.tuple #[v, .bool true]) ∧ SpotV v (spotS (l.take n))) ∧ w = w' := by
  have hsz : (⟨l.toArray⟩ : ByteArray).size = l.length := by simp [ByteArray.size]
  have c1 := Lib.hid (fun w => of_any (l.take n) (by simp; omega) w)
  go_enter Tryd.func23, Tryd.ntmps23
  go_wp2_with fail
  rw [extract_take]
  refine (c1.out _).mono ?_
  rintro e w' ⟨⟨v, rfl, hv⟩, rfl⟩
  replace hv := Lib.hid hv
  go_wp2
  go_ret2
  exact ⟨⟨v, rfl, hv.out⟩, rfl⟩

/-- Being ahead, of two numbers. -/
def lessW (a b c d : Nat) : Bool := match pairOf a b, pairOf c d with
  | some p, some q => lessP p q
  | _, _ => false
set_option maxHeartbeats 1000000 in
theorem less_no (a b c d : Nat) (h : (isP a && isP b) = false ∨ (isP c && isP d) = false) (w : World) :
    Calls Tryd.prog 24 #[.complex .f64 a b, .complex .f64 c d] w fun e w' => e = .returned (.bool false) ∧ w = w' := by
  have c1 := Lib.hid (fun w => is_any a b w)
  have c2 := Lib.hid (fun w => is_any c d w)
  generalize (isP a && isP b) = x at *
  generalize (isP c && isP d) = y at *
  cases x
  · clear h
    go_enter Tryd.func24, Tryd.ntmps24
    go_wp2_with fail
    refine (c1.out _).mono ?_
    rintro e w' ⟨rfl, rfl⟩
    go_wp2
    go_ret
    exact ⟨rfl, rfl⟩
  · have hy : y = false := by simpa using h
    subst hy
    clear h
    go_enter Tryd.func24, Tryd.ntmps24
    go_wp2_with fail
    refine (c1.out _).mono ?_
    rintro e w' ⟨rfl, rfl⟩
    go_wp2_with fail
    refine (c2.out _).mono ?_
    rintro e w' ⟨rfl, rfl⟩
    go_wp2
    go_ret
    exact ⟨rfl, rfl⟩
theorem lt_isN {x y n m : Nat} (h : IsN x n) (g : IsN y m) : (FloatKind.f64.format.order x y == some .lt) = decide (n < m) := by
  have h1 : FloatKind.f64.format.order x y = some (compare n m) := order_isN h g
  rw [h1, cmp_lt]
theorem ne_isN {x y n m : Nat} (h : IsN x n) (g : IsN y m) : (FloatKind.f64.format.order x y != some .eq) = !decide (n = m) := by
  have h1 : FloatKind.f64.format.order x y = some (compare n m) := order_isN h g
  rw [h1]
  show (!(some (compare n m) == some .eq)) = _
  rw [cmp_eq]
set_option maxHeartbeats 1000000 in
theorem less_yes (a b c d : Nat) (p q : Nat × Nat) (h1 : pairOf a b = some p) (h2 : pairOf c d = some q) (w : World) :
    Calls Tryd.prog 24 #[.complex .f64 a b, .complex .f64 c d] w fun e w' => e = .returned (.bool (lessP p q)) ∧ w = w' := by
  obtain ⟨g1, g2⟩ := pairOf_some h1
  obtain ⟨g3, g4⟩ := pairOf_some h2
  have i1 : (isP a && isP b) = true := by unfold isP; rw [g1, g2]; rfl
  have i2 : (isP c && isP d) = true := by unfold isP; rw [g3, g4]; rfl
  have c1 := fun w => is_any a b w
  have c2 := fun w => is_any c d w
  rw [i1] at c1
  rw [i2] at c2
  obtain ⟨n1, l1⟩ := partOf_isN g1
  obtain ⟨n2, l2⟩ := partOf_isN g2
  obtain ⟨n3, l3⟩ := partOf_isN g3
  obtain ⟨n4, l4⟩ := partOf_isN g4
  have e1 := ne_isN n1 n3
  have e2 := lt_isN n1 n3
  have e3 := lt_isN n2 n4
  replace c1 := Lib.hid c1
  replace c2 := Lib.hid c2
  clear h1 h2 g1 g2 g3 g4 i1 i2 n1 n2 n3 n4 l1 l2 l3 l4
  by_cases hq : p.1 = q.1
  · have hL : lessP p q = decide (p.2 < q.2) := by simp [lessP, hq]
    rw [hL]
    have e4 : (FloatKind.f64.format.order a c != some .eq) = false := by rw [e1]; simp [hq]
    clear e1 e2 hq hL
    replace e3 := Lib.hid e3
    go_enter Tryd.func24, Tryd.ntmps24
    go_wp2_with fail
    refine (c1.out _).mono ?_
    rintro e w' ⟨rfl, rfl⟩
    go_wp2_with fail
    refine (c2.out _).mono ?_
    rintro e w' ⟨rfl, rfl⟩
    go_wp2
    go_ret
    exact ⟨by rw [← e3.out]; rfl, rfl⟩
  · have hL : lessP p q = decide (p.1 < q.1) := by simp [lessP, hq]
    rw [hL]
    have e4 : (FloatKind.f64.format.order a c != some .eq) = true := by rw [e1]; simp [hq]
    clear e1 e3 hq hL
    replace e2 := Lib.hid e2
    go_enter Tryd.func24, Tryd.ntmps24
    go_wp2_with fail
    refine (c1.out _).mono ?_
    rintro e w' ⟨rfl, rfl⟩
    go_wp2_with fail
    refine (c2.out _).mono ?_
    rintro e w' ⟨rfl, rfl⟩
    go_wp2
    go_ret
    exact ⟨by rw [← e2.out]; rfl, rfl⟩
theorem less_any (a b c d : Nat) (w : World) :
    Calls Tryd.prog 24 #[.complex .f64 a b, .complex .f64 c d] w fun e w' => e = .returned (.bool (lessW a b c d)) ∧ w = w' := by
  by_cases h : (isP a && isP b) = false ∨ (isP c && isP d) = false
  · have hn : lessW a b c d = false := by
      unfold lessW
      rcases h with h | h
      · rw [pairOf_none h]
      · rw [pairOf_none h]
        cases pairOf a b <;> rfl
    rw [hn]
    exact less_no a b c d h w
  · have h1 : (isP a && isP b) = true := by cases hx : (isP a && isP b) <;> simp_all
    have h2 : (isP c && isP d) = true := by cases hx : (isP c && isP d) <;> simp_all
    obtain ⟨p, hp⟩ := pairOf_isP h1
    obtain ⟨q, hq⟩ := pairOf_isP h2
    have hj : lessW a b c d = lessP p q := by unfold lessW; rw [hp, hq]
    rw [hj]
    exact less_yes a b c d p q hp hq w
set_option maxHeartbeats 1000000 in
theorem rless_any (p q : Nat × Nat) (w : World) :
    Calls Tryd.prog 25 #[SV p, SV q] w fun e w' => e = .returned (.bool (lessP p q)) ∧ Below w.heap.size w w' := by
  obtain ⟨a, b⟩ := p
  obtain ⟨c, d⟩ := q
  by_cases h1 : a < c
  · have hL : lessP (a, b) (c, d) = true := by simp [lessP, h1]
    rw [hL]
    clear hL
    go_enter Tryd.func25, Tryd.ntmps25
    go_wp2
    go_ret
    exact ⟨rfl, ((Below.refl _ _).alloc (Nat.le_refl _) _).alloc (by simp) _⟩
  · by_cases h2 : a = c
    · subst h2
      have hL : lessP (a, b) (a, d) = decide (b < d) := by simp [lessP]
      rw [hL]
      clear hL h1
      have h3 : ((a : Int) == (a : Int)) = true := by simp
      go_enter Tryd.func25, Tryd.ntmps25
      go_wp2
      go_ret
      exact ⟨by simp, ((Below.refl _ _).alloc (Nat.le_refl _) _).alloc (by simp) _⟩
    · have hL : lessP (a, b) (c, d) = false := by simp [lessP, h1, h2]
      rw [hL]
      clear hL
      have h3 : ((a : Int) == (c : Int)) = false := by rw [beq_eq_false_iff_ne]; omega
      have h4 : ¬ ((a : Int) < c) := by omega
      clear h2
      go_enter Tryd.func25, Tryd.ntmps25
      go_wp2
      go_ret
      exact ⟨by simp, ((Below.refl _ _).alloc (Nat.le_refl _) _).alloc (by simp) _⟩
end Go.Proofs.YtnkmcjkmabjfhaaDoor
