/- The walks of Of and Join, and of the reference's part and Is. -/
import Derived.Test.YtnkmcjkmabjfhaaDoorSpotW
import Derived.Deep.WholeRow
namespace Go.Proofs.YtnkmcjkmabjfhaaDoor
open Go.RowKit

/-- A complex number that is a spot. -/
def SpotV (v : Value) (p : Nat × Nat) : Prop := ∃ a b, v = .complex .f64 a b ∧ IsN a p.1 ∧ IsN b p.2
theorem index_str (l : List UInt8) (k : Nat) (hk : k < l.length) (w : World) : (Instr.index 9 (.string ⟨l.toArray⟩) (.int .i64 (k : Int))).run Tryd.prog w = .ok (B (l.getD k 0)) w := by
  have h0 : (⟨l.toArray⟩ : ByteArray)[k]? = some l[k] := by
    have hs : k < (⟨l.toArray⟩ : ByteArray).size := by simpa [ByteArray.size] using hk
    rw [getElem?_pos (⟨l.toArray⟩ : ByteArray) k hs]
    rfl
  simp [Instr.index, asIntOf, run_underlying Tryd.underlying9, h0, hk, bv]

set_option maxHeartbeats 1000000 in
theorem of_any (l : List UInt8) (hl : l.length ≤ 2251799813685248) (w : World) :
    Calls Tryd.prog 16 #[.string ⟨l.toArray⟩] w fun e w' => (∃ v, e = .returned v ∧ SpotV v (spotS l)) ∧ w = w' := by
  have hsz : (⟨l.toArray⟩ : ByteArray).size = l.length := by simp [ByteArray.size]
  obtain ⟨n, hn⟩ : ∃ n, n = l.length := ⟨_, rfl⟩
  rw [← hn] at hsz hl
  replace hn := Lib.hid hn
  go_enter Tryd.func16, Tryd.ntmps16
  go_wp2
  go_loopw [7, 3] (fun i c wr => ∃ k : Nat, k ≤ n ∧ i = .int .i64 (k : Int) ∧ SpotV c (spotS (l.take k)) ∧ w = wr) (fun i _ _ => n - (intOf i).toNat)
  case atStart => exact ⟨0, Nat.zero_le _, rfl, ⟨0, 0, rfl, zero_isN, zero_isN⟩, rfl⟩
  case round =>
    obtain ⟨k, hk, rfl, ⟨a, b, rfl, ha, hb⟩, hw⟩ := hrel
    by_cases hlt : k < n
    · have hkl : k < l.length := by rw [← hn.out]; exact hlt
      have hidx := index_str l k hkl
      obtain ⟨c, hc⟩ : ∃ c, c = l.getD k 0 := ⟨_, rfl⟩
      rw [← hc] at hidx
      have hle := spotS_take_le l k
      rw [← hn.out] at hle
      have hst := step_any a b (spotS (l.take k)) ha hb (by omega) c
      rw [hc, ← spotS_take l k hkl, ← hc] at hst
      replace hst := Lib.hid hst
      replace hc := Lib.hid hc
      clear ha hb hle
      go_wp2_with (go_at_call 32; refine (hst.out _).mono ?_; rintro e w1 ⟨⟨a', b', rfl, ha', hb'⟩, rfl⟩)
      go_roundw
      case rel => exact ⟨k + 1, by omega, by go_num, ⟨a', b', rfl, ha', hb'⟩, hw⟩
      case measure => simp [intOf]; omega
    · have hkn : k = n := by omega
      have hge : n ≤ k := by omega
      have hv : SpotV (.complex .f64 a b) (spotS l) := by
        rw [hkn, hn.out, List.take_length] at ha hb
        exact ⟨a, b, rfl, ha, hb⟩
      clear hkn ha hb
      replace hv := Lib.hid hv
      go_wp2
      go_ret
      exact ⟨⟨_, rfl, hv.out⟩, hw⟩

set_option maxHeartbeats 1000000 in
theorem part_no (x : Nat) (h : betw x = false) (w : World) :
    Calls Tryd.prog 33 #[.float .f64 x] w fun e w' => e = .returned (.tuple #[.int .i64 0, .bool false]) ∧ w = w' := by
  cases h1 : (FloatKind.f64.format.order x 0 == some .gt || FloatKind.f64.format.order x 0 == some .eq) with
  | false =>
    clear h
    go_enter Tryd.func33, Tryd.ntmps33
    go_wp2
    go_ret2
    exact ⟨rfl, rfl⟩
  | true =>
    have h2 : (FloatKind.f64.format.order x 4832362400168542208 == some .lt || FloatKind.f64.format.order x 4832362400168542208 == some .eq) = false := by
      rw [fmt64] at h1 ⊢
      unfold betw at h
      rw [mostF_eq, h1, Bool.true_and] at h
      exact h
    clear h
    go_enter Tryd.func33, Tryd.ntmps33
    go_wp2
    go_ret2
    exact ⟨rfl, rfl⟩
theorem run_conv_int (w : World) {x : Nat} {s : Bool} {m : Nat} {i : Int} (hr : Ieee.double.read x = .number s m i) (hs : s = true → m = 0) (hq : wholeOf m i ≤ 1125899906842624) :
    (convert 30 3 (.float .f64 x)).run Tryd.prog w = .ok (.int .i64 (wholeOf m i : Int)) w := by
  have ht : (FloatKind.f64.decode x).toInt .zero = some (wholeOf m i : Int) := by
    have hd : FloatKind.f64.decode x = .number s m i := hr
    rw [hd]; exact toInt_zero hs
  have hb : IntKind.i64.min ≤ (wholeOf m i : Int) ∧ (wholeOf m i : Int) ≤ IntKind.i64.max := by
    have h1 : IntKind.i64.min = -9223372036854775808 := by decide
    have h2 : IntKind.i64.max = 9223372036854775807 := by decide
    rw [h1, h2]; omega
  simp only [convert, Sem.run_bind, run_underlying Tryd.underlying30, run_underlying Tryd.underlying3, Result.andThen_ok, Conv.floatToInt, ht, if_pos hb, Sem.run_pure]
set_option maxHeartbeats 1000000 in
theorem part_yes (x : Nat) (h : betw x = true) (w : World) :
    Calls Tryd.prog 33 #[.float .f64 x] w fun e w' => (∃ n : Nat, n ≤ 1125899906842624 ∧ (∀ m, partOf x = some m → n = m) ∧ e = .returned (.tuple #[.int .i64 (n : Int), .bool (isP x)])) ∧ w = w' := by
  obtain ⟨h1, h2⟩ := betw_parts h
  obtain ⟨s, m, i, hr, hs, hq, hy⟩ := betw_part h
  rw [← fmt64] at h1 h2
  have hcv := fun w => run_conv_int w hr hs hq
  have heq := (hy _ (isN_nearest (n := wholeOf m i) (by omega))).2
  have hpw := Lib.hid (fun n => part_whole (n := n) hr)
  clear hr hs hy h
  generalize wholeOf m i = n at *
  replace heq : (FloatKind.f64.format.order (floatOfInt .f64 (n : Int)) x == some .eq) = isP x := heq
  replace heq := Lib.hid heq
  go_enter Tryd.func33, Tryd.ntmps33
  go_wp2
  go_ret2
  exact ⟨⟨n, hq, fun m hm => (hpw.out m hm).symm, by rw [← heq.out]; rfl⟩, rfl⟩

/-- A spot of the reference's, as a value. -/
abbrev SV (p : Nat × Nat) : Value := .agg #[.int .i64 (p.1 : Int), .int .i64 (p.2 : Int)]
/-- Both parts of a number. -/
def pairOf (a b : Nat) : Option (Nat × Nat) := match partOf a, partOf b with
  | some x, some y => some (x, y)
  | _, _ => none
theorem pairOf_some {a b : Nat} {p : Nat × Nat} (h : pairOf a b = some p) : partOf a = some p.1 ∧ partOf b = some p.2 := by
  unfold pairOf at h
  split at h
  · rename_i h1 h2; injection h with h; subst h; exact ⟨h1, h2⟩
  · cases h
theorem pairOf_isP {a b : Nat} (h : (isP a && isP b) = true) : ∃ p, pairOf a b = some p := by
  unfold isP at h
  unfold pairOf
  cases h1 : partOf a with
  | none => rw [h1] at h; simp at h
  | some x =>
    cases h2 : partOf b with
    | none => rw [h1, h2] at h; simp at h
    | some y => exact ⟨(x, y), rfl⟩
theorem pairOf_none {a b : Nat} (h : (isP a && isP b) = false) : pairOf a b = none := by
  unfold isP at h
  unfold pairOf
  cases h1 : partOf a with
  | none => simp
  | some x =>
    cases h2 : partOf b with
    | none => simp
    | some y => rw [h1, h2] at h; simp at h
/-- What the reference makes of two parts: a pair (0, 0) where it refuses. -/
def pairD (a b : Nat) : Nat × Nat := (pairOf a b).getD (0, 0)
theorem pairD_le (a b : Nat) : (pairD a b).1 ≤ 1125899906842624 ∧ (pairD a b).2 ≤ 1125899906842624 := by
  unfold pairD
  cases h : pairOf a b with
  | none => simp
  | some p =>
    obtain ⟨h1, h2⟩ := pairOf_some h
    have := (partOf_isN h1).2
    have := (partOf_isN h2).2
    simp only [Option.getD_some]
    omega
theorem part_any (x : Nat) (w : World) :
    Calls Tryd.prog 33 #[.float .f64 x] w fun e w' => (∃ n : Nat, n ≤ 1125899906842624 ∧ (∀ m, partOf x = some m → n = m) ∧ e = .returned (.tuple #[.int .i64 (n : Int), .bool (isP x)])) ∧ w = w' := by
  cases h : betw x with
  | true => exact part_yes x h w
  | false =>
    refine (part_no x h w).mono ?_
    rintro e w' ⟨rfl, rfl⟩
    have hp := part_of_not_betw h
    refine ⟨⟨0, by omega, ?_, ?_⟩, rfl⟩
    · intro m hm; rw [hp] at hm; cases hm
    · unfold isP; rw [hp]; rfl
theorem zeros26 : (Tryd.prog.info? 26).map (fun i => (i.zero, i.size)) = some (some (SV (0, 0)), 2) := by kernel_rfl
set_option maxHeartbeats 1000000 in
theorem ris_any (a b : Nat) (w : World) :
    Calls Tryd.prog 19 #[.float .f64 a, .float .f64 b] w fun e w' => e = .returned (.tuple #[SV (pairD a b), .bool (isP a && isP b)]) ∧ Below w.heap.size w w' := by
  have c1 := Lib.hid (fun w => part_any a w)
  have c2 := Lib.hid (fun w => part_any b w)
  have hz := (zero_of_info zeros26).1
  have hno := Lib.hid (fun h => pairOf_none (a := a) (b := b) h)
  have hyes : ∀ n m : Nat, (∀ q, partOf a = some q → n = q) → (∀ q, partOf b = some q → m = q) → (isP a && isP b) = true → pairD a b = (n, m) := by
    intro n m h1 h2 h3
    obtain ⟨p, hp⟩ := pairOf_isP h3
    obtain ⟨g1, g2⟩ := pairOf_some hp
    unfold pairD
    rw [hp, h1 _ g1, h2 _ g2]; rfl
  replace hyes := Lib.hid hyes
  cases hx : isP a <;> cases hy : isP b
  all_goals rw [hx] at c1
  all_goals rw [hy] at c2
  all_goals rw [hx, hy] at hno hyes
  all_goals clear hx hy
  all_goals
    go_enter Tryd.func19, Tryd.ntmps19
    go_wp2_with fail
    refine (c1.out _).mono ?_
    rintro e w1 ⟨⟨n, hn, hn2, rfl⟩, rfl⟩
    replace hn2 := Lib.hid hn2
    go_wp2_with fail
    refine (c2.out _).mono ?_
    rintro e w2 ⟨⟨m, hm, hm2, rfl⟩, rfl⟩
    replace hm2 := Lib.hid hm2
    go_wp2
  all_goals first
    | (have hp : pairD a b = (0, 0) := by unfold pairD; rw [hno.out rfl]; rfl
       rw [hp]
       exact bodyPost_ret (v := .tuple #[SV (0, 0), .bool false]) (by simp [results, Tryd.results19, go_sem]) rfl ⟨rfl, (Below.refl _ _).alloc (Nat.le_refl _) _⟩)
    | (have hp : pairD a b = (n, m) := hyes.out n m hn2.out hm2.out rfl
       rw [hp]
       exact bodyPost_ret (v := .tuple #[SV (n, m), .bool true]) (by simp [results, Tryd.results19, go_sem]) rfl ⟨rfl, (Below.refl _ _).alloc (Nat.le_refl _) _⟩)

/-- What Join answers. -/
def joinO (p q : Nat × Nat) : Option (Nat × Nat) := if (joinS p q).1 ≤ 1125899906842624 ∧ (joinS p q).2 ≤ 1125899906842624 then some (joinS p q) else none
set_option maxHeartbeats 1000000 in
theorem rjoin_any (p q : Nat × Nat) (hp1 : p.1 ≤ 1125899906842624) (hp2 : p.2 ≤ 1125899906842624) (hq1 : q.1 ≤ 1125899906842624) (hq2 : q.2 ≤ 1125899906842624) (w : World) :
    Calls Tryd.prog 22 #[SV p, SV q] w fun e w' => e = .returned (.tuple #[SV ((joinO p q).getD (0, 0)), .bool (joinO p q).isSome]) ∧ Below w.heap.size w w' := by
  have hz := (zero_of_info zeros26).1
  obtain ⟨a, b⟩ := p
  obtain ⟨c, d⟩ := q
  simp only at hp1 hp2 hq1 hq2
  by_cases hc : c = 0
  · subst hc
    have hJ : joinS (a, b) (0, d) = (a, b + d) := by simp [joinS]
    unfold joinO
    rw [hJ]
    by_cases hs : b + d ≤ 1125899906842624
    · rw [if_pos ⟨hp1, hs⟩]
      go_enter Tryd.func22, Tryd.ntmps22
      go_wp2
      refine bodyPost_ret (v := .tuple #[SV (a, b + d), .bool true]) (by simp [results, Tryd.results22, go_sem]) rfl ⟨rfl, ?_⟩
      (repeat (first | exact Below.refl _ _ | refine Below.alloc ?_ (by simp <;> omega) _ | refine Below.setCell ?_ (by simp <;> omega) _))
    · rw [if_neg (fun h => hs h.2)]
      go_enter Tryd.func22, Tryd.ntmps22
      go_wp2
      refine bodyPost_ret (v := .tuple #[SV (0, 0), .bool false]) (by simp [results, Tryd.results22, go_sem]) rfl ⟨rfl, ?_⟩
      (repeat (first | exact Below.refl _ _ | refine Below.alloc ?_ (by simp <;> omega) _ | refine Below.setCell ?_ (by simp <;> omega) _))
  · have hJ : joinS (a, b) (c, d) = (a + c, d) := by simp [joinS, hc]
    have hc2 : ((c : Int) == 0) = false := by rw [beq_eq_false_iff_ne]; omega
    unfold joinO
    rw [hJ]
    clear hc hJ
    by_cases hs : a + c ≤ 1125899906842624
    · rw [if_pos ⟨hs, hq2⟩]
      go_enter Tryd.func22, Tryd.ntmps22
      go_wp2
      refine bodyPost_ret (v := .tuple #[SV (a + c, d), .bool true]) (by simp [results, Tryd.results22, go_sem]) rfl ⟨rfl, ?_⟩
      (repeat (first | exact Below.refl _ _ | refine Below.alloc ?_ (by simp <;> omega) _ | refine Below.setCell ?_ (by simp <;> omega) _))
    · rw [if_neg (fun h => hs h.1)]
      go_enter Tryd.func22, Tryd.ntmps22
      go_wp2
      refine bodyPost_ret (v := .tuple #[SV (0, 0), .bool false]) (by simp [results, Tryd.results22, go_sem]) rfl ⟨rfl, ?_⟩
      (repeat (first | exact Below.refl _ _ | refine Below.alloc ?_ (by simp <;> omega) _ | refine Below.setCell ?_ (by simp <;> omega) _))
end Go.Proofs.YtnkmcjkmabjfhaaDoor
