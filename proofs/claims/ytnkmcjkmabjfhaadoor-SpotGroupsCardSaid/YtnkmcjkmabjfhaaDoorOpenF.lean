/- What the walks are told of an argument that is an array of two floats. -/
import Derived.Test.YtnkmcjkmabjfhaaDoorPost
import Derived.Laws.Cover2
import Derived.ChangeSlices
namespace Go.Proofs.YtnkmcjkmabjfhaaDoor
open Go.ChangeShapes Go.WideShapes Go.ChangeAt Go.RowKit
section
variable {H : Type} {enc : TypeId × Value → H} {P : Program}
theorem trod_float {w : World} {base : Nat} {spare : Nat → Bool} {held : Bool} {fuel : Nat} {t : TypeId} {k : FloatKind} {cs : List Value} {x : DataW H × List MemPlace} (ht : P.underlying t = some (.float k))
    (h : DataW.trod enc P w base spare held fuel t cs = some x) : ∃ b, cs = [.float k b] := by
  cases fuel with
  | zero => simp [DataW.trod] at h
  | succ n =>
    unfold DataW.trod at h
    rw [ht] at h
    split at h <;> simp_all
theorem open_float2 {t e : TypeId} (ht : P.underlying t = some (.array 2 e)) (he : P.underlying e = some (.float .f64)) (hce : P.cellsOf e = 1) (hct : P.cellsOf t = 2) {w W : World} {r : Reach} {b0 base : Nat} {spare : Nat → Bool} {held : Bool} {v : Value} {d : DataW H} {p : List MemPlace}
    (hv : Value.okWide P w r b0 t v) (h : DataW.Trod enc P W base spare held t v d p) : ∃ a b, v = .agg #[.float .f64 a, .float .f64 b] := by
  simp only [Value.okWide, ht] at hv
  obtain ⟨cs, rfl, hsz, _⟩ := hv
  obtain ⟨fuel, hf⟩ := h
  obtain ⟨xs, m, rfl, hx, hlen, hn, hel⟩ := DataW.trod_array ht hf
  simp only [Value.cells] at hf hlen hel
  have hl : cs.toList.length = 2 := by rw [hlen, hct]
  obtain ⟨l⟩ := cs
  simp only at hl hel
  match l, hl with
  | [c0, c1], _ =>
    have h0 := hel 0 (by omega)
    have h1 := hel 1 (by omega)
    rw [hce] at h0 h1
    simp only [Nat.zero_mul, Nat.one_mul, List.drop_zero, List.drop_succ_cons, List.take_succ_cons, List.take_zero] at h0 h1
    have hx0 : 0 < xs.length := by omega
    have hx1 : 1 < xs.length := by omega
    rw [List.getElem?_eq_getElem hx0] at h0
    rw [List.getElem?_eq_getElem hx1] at h1
    obtain ⟨a, ha⟩ := trod_float he h0
    obtain ⟨b, hb⟩ := trod_float he h1
    cases ha
    cases hb
    exact ⟨a, b, rfl⟩
end
end Go.Proofs.YtnkmcjkmabjfhaaDoor
