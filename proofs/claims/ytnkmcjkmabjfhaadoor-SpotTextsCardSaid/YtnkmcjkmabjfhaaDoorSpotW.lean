/- The walks of math.Floor, whole, Is, step, Of, Join and of the reference's part and Is. -/
import Derived.Test.YtnkmcjkmabjfhaaDoorSpotP
import Derived.Test.YtnkmcjkmabjfhaaDoorFlt
import Derived.Test.YtnkmcjkmabjfhaaDoorWord
import Derived.Test.YtnkmcjkmabjfhaaDoorMem
import Derived.Test.YtnkmcjkmabjfhaaDoorProg
import Derived.Laws.Cover2
import Derived.Laws.Cover3
import Derived.Laws.Externs
namespace Go.Proofs.YtnkmcjkmabjfhaaDoor
open Go.RowKit

theorem mostF_eq : mostF = 4832362400168542208 := by decide
theorem run_archFloor (x : Nat) (s : Bool) (m : Nat) (i : Int) (hr : Ieee.double.read x = .number s m i) (w : World) :
    (callFunc 44 #[.float .f64 x]).run Tryd.prog w = .ok (.value (.float .f64 (floorW x))) w := by
  rw [run_callFunc_extern (e := Extern.MathFloor.toIntegral "math.archFloor" .down) Tryd.func44 (by kernel_rfl) (by kernel_rfl) (by kernel_rfl) (by kernel_rfl)]
  have hw : floorW x = FloatKind.f64.encode ((Ieee.Datum.number s m i).integral .down) := by unfold floorW; rw [hr]; rfl
  have ht : Extern.MathFloor.toIntegral "math.archFloor" .down #[.float .f64 x] = pure (.float .f64 (floorW x)) := by
    rw [hw]
    have hd : FloatKind.f64.decode x = .number s m i := hr
    have key : ∀ d, FloatKind.f64.decode x = d → d = .number s m i → Extern.MathFloor.toIntegral "math.archFloor" .down #[.float .f64 x] = pure (.float .f64 (FloatKind.f64.encode (d.integral .down))) := by
      intro d h1 h2
      subst h2
      rw [Extern.MathFloor.toIntegral.eq_def]
      show (match FloatKind.f64.decode x with
        | .nan s t => _
        | d => pure (Value.float .f64 (FloatKind.f64.encode (d.integral .down)))) = _
      rw [h1]
    exact key _ hd rfl
  rw [ht, Sem.run_pure, Result.andThen_ok]
set_option maxHeartbeats 400000 in
theorem floor_any (x : Nat) (s : Bool) (m : Nat) (i : Int) (hr : Ieee.double.read x = .number s m i) (w : World) :
    Calls Tryd.prog 40 #[.float .f64 x] w fun e w' => e = .returned (.float .f64 (floorW x)) ∧ w = w' := by
  have hfl := run_archFloor x s m i hr
  clear hr
  go_enter Tryd.func40, Tryd.ntmps40
  go_wp2
  go_ret
  exact ⟨rfl, rfl⟩

theorem ret_bool {a b : Bool} (h : a = b) : Ending.returned (.bool a) = .returned (.bool b) := by rw [h]
theorem ret2 {u : Value} {a b : Bool} (h : a = b) : Ending.returned (.tuple #[u, .bool a]) = .returned (.tuple #[u, .bool b]) := by rw [h]
/-- May a word be a part of a spot? (A plain def: the walk does not look behind it.) -/
def isP (x : Nat) : Bool := (partOf x).isSome
theorem betw_parts {x : Nat} (h : betw x = true) : (Ieee.double.order x 0 == some .gt || Ieee.double.order x 0 == some .eq) = true ∧ (Ieee.double.order x 4832362400168542208 == some .lt || Ieee.double.order x 4832362400168542208 == some .eq) = true := by
  unfold betw at h
  rw [mostF_eq] at h
  simpa using h
theorem fmt64 : FloatKind.f64.format = Ieee.double := rfl
theorem wholeB_floor {x : Nat} (hb : betw x = true) : (FloatKind.f64.format.order x (floorW x) == some .eq) = isP x := by
  have := wholeB_eq x
  have e : wholeB x = (betw x && (Ieee.double.order x (floorW x) == some .eq)) := rfl
  rw [e, hb, Bool.true_and] at this
  exact this
set_option maxHeartbeats 1000000 in
theorem whole_any (x : Nat) (w : World) :
    Calls Tryd.prog 34 #[.float .f64 x] w fun e w' => e = .returned (.bool (isP x)) ∧ w = w' := by
  by_cases hb : betw x = true
  · obtain ⟨h1, h2⟩ := betw_parts hb
    have h3 := wholeB_floor hb
    obtain ⟨s, m, i, hr, _⟩ := betw_part hb
    have hfl := Lib.hid (fun w => floor_any x s m i hr w)
    rw [← fmt64] at h1 h2
    clear hr hb
    replace h3 := Lib.hid h3
    go_enter Tryd.func34, Tryd.ntmps34
    go_wp2_with (go_at_call 40; refine (hfl.out _).mono ?_; rintro e w' ⟨rfl, rfl⟩)
    go_ret
    exact ⟨by rw [h3.out]; rfl, rfl⟩
  · have hp : isP x = false := by unfold isP; rw [part_of_not_betw (by simpa using hb)]; rfl
    have hp' := Lib.hid hp
    clear hp
    cases h1 : (FloatKind.f64.format.order x 0 == some .gt || FloatKind.f64.format.order x 0 == some .eq) with
    | false =>
      clear hb
      go_enter Tryd.func34, Tryd.ntmps34
      go_wp2
      go_ret
      exact ⟨by rw [hp'.out]; rfl, rfl⟩
    | true =>
      have h2 : (FloatKind.f64.format.order x 4832362400168542208 == some .lt || FloatKind.f64.format.order x 4832362400168542208 == some .eq) = false := by
        rw [fmt64] at h1 ⊢
        unfold betw at hb
        rw [mostF_eq, h1, Bool.true_and] at hb
        simpa using hb
      clear hb
      go_enter Tryd.func34, Tryd.ntmps34
      go_wp2
      go_ret
      exact ⟨by rw [hp'.out]; rfl, rfl⟩

set_option maxHeartbeats 400000 in
theorem is_any (a b : Nat) (w : World) :
    Calls Tryd.prog 20 #[.complex .f64 a b] w fun e w' => e = .returned (.bool (isP a && isP b)) ∧ w = w' := by
  have c1 := Lib.hid (fun w => whole_any a w)
  have c2 := Lib.hid (fun w => whole_any b w)
  generalize isP a = x at *
  generalize isP b = y at *
  cases x
  · go_enter Tryd.func20, Tryd.ntmps20
    go_wp2_with (go_at_call 34; refine (c1.out _).mono ?_; rintro e w' ⟨rfl, rfl⟩)
    go_ret
    exact ⟨rfl, rfl⟩
  · go_enter Tryd.func20, Tryd.ntmps20
    go_wp2_with fail
    refine (c1.out _).mono ?_
    rintro e w' ⟨rfl, rfl⟩
    go_wp2_with fail
    refine (c2.out _).mono ?_
    rintro e w' ⟨rfl, rfl⟩
    go_wp2
    go_ret
    exact ⟨by cases y <;> rfl, rfl⟩
theorem one_isN : IsN 4607182418800017408 1 := isN_nearest (n := 1) (by decide)
theorem zero_isN : IsN 0 0 := isN_zero false
theorem add_f {x y a b : Nat} (hx : IsN x a) (hy : IsN y b) (h : a + b < 2 ^ 53) : ∃ z, FloatKind.f64.format.add x y = some z ∧ IsN z (a + b) := add_isN hx hy h
theorem run_fadd {P : Program} (w : World) (t : TypeId) {x y z : Nat} (h : FloatKind.f64.format.add x y = some z) : (binOp .add t (.float .f64 x) (.float .f64 y)).run P w = .ok (.float .f64 z) w := by
  simp [binOp, Op.floatArith, h]
theorem run_cadd {P : Program} (w : World) (t : TypeId) {a b c d x y : Nat} (h : FloatKind.f64.format.add a c = some x) (g : FloatKind.f64.format.add b d = some y) : (binOp .add t (.complex .f64 a b) (.complex .f64 c d)).run P w = .ok (.complex .f64 x y) w := by
  simp [binOp, Op.complexOp, Op.Complex.arith, Op.floatArith, h, g]
set_option maxHeartbeats 400000 in
theorem step_any (a b : Nat) (p : Nat × Nat) (ha : IsN a p.1) (hb : IsN b p.2) (h : p.1 + p.2 < 4503599627370496) (c : UInt8) (w : World) :
    Calls Tryd.prog 32 #[.complex .f64 a b, B c] w fun e w' => (∃ a' b', e = .returned (.complex .f64 a' b') ∧ IsN a' (stepS p c).1 ∧ IsN b' (stepS p c).2) ∧ w = w' := by
  by_cases hc : c = 10
  · have hbc : (bv c == 10) = true := by rw [hc]; rfl
    obtain ⟨z, hz, hzn⟩ := add_f ha one_isN (by omega)
    have H : IsN z (stepS p c).1 ∧ IsN 0 (stepS p c).2 := by unfold stepS; rw [if_pos hc]; exact ⟨hzn, zero_isN⟩
    replace H := Lib.hid H
    have hrun := fun w => run_fadd (P := Tryd.prog) w 30 hz
    clear hc hzn ha hb h hz
    go_enter Tryd.func32, Tryd.ntmps32
    go_wp2
    go_ret
    exact ⟨⟨_, _, rfl, H.out⟩, rfl⟩
  · have hbc : (bv c == 10) = false := by
      rw [beq_eq_false_iff_ne]; intro h2; exact hc (bv_inj (y := 10) h2)
    obtain ⟨z, hz, hzn⟩ := add_f ha zero_isN (by omega)
    obtain ⟨y, hy, hyn⟩ := add_f hb one_isN (by omega)
    have H : IsN z (stepS p c).1 ∧ IsN y (stepS p c).2 := by unfold stepS; rw [if_neg hc]; exact ⟨hzn, hyn⟩
    replace H := Lib.hid H
    have hrun := fun w => run_cadd (P := Tryd.prog) w 23 hz hy
    clear hc hzn hyn ha hb h hz hy
    go_enter Tryd.func32, Tryd.ntmps32
    go_wp2
    go_ret
    exact ⟨⟨_, _, rfl, H.out⟩, rfl⟩
end Go.Proofs.YtnkmcjkmabjfhaaDoor
