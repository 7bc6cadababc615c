/- What the walks are told of an argument: an array of bytes, a slice of bytes. -/
import Derived.Test.YtlenmkemjaaaoaaDoorBa
import Derived.Test.YtlenmkemjaaaoaaDoorPost
namespace Go.Proofs.YtlenmkemjaaaoaaDoor
open Go.ChangeShapes Go.WideShapes Go.ChangeAt Go.RowKit
section
variable {H : Type} {enc : TypeId × Value → H} {P : Program}
theorem byte_of_wf {n : Int} (h : (Lit.int .u8 n).wf = true) : ∃ x : UInt8, n = bv x := by
  simp only [Lit.wf, IntKind.min, IntKind.max, IntKind.signed, IntKind.bits, Bool.and_eq_true] at h
  refine ⟨UInt8.ofNat n.toNat, ?_⟩
  simp at h
  unfold bv
  simp
  omega
theorem bytes_of_each : ∀ (cs : List Value), (∀ v ∈ cs, ∃ x : UInt8, v = B x) → ∃ l : List UInt8, cs = l.map B
  | [], _ => ⟨[], rfl⟩
  | c :: cs, h => by
    obtain ⟨x, rfl⟩ := h c (by simp)
    obtain ⟨l, rfl⟩ := bytes_of_each cs (fun v hv => h v (by simp [hv]))
    exact ⟨x :: l, rfl⟩
/-- An array of bytes, by value. -/
theorem open_byte_array {t e : TypeId} {n : Nat} (ht : P.underlying t = some (.array n e)) (he : P.underlying e = some (.int .u8)) (hce : P.cellsOf e = 1) (hct : P.cellsOf t = n) {w W : World} {r : Reach} {b0 base : Nat} {spare : Nat → Bool} {held : Bool} {v : Value} {d : DataW H} {p : List MemPlace}
    (hv : Value.okWide P w r b0 t v) (h : DataW.Trod enc P W base spare held t v d p) : ∃ l : List UInt8, l.length = n ∧ v = .agg (l.map B).toArray := by
  simp only [Value.okWide, ht] at hv
  obtain ⟨cs, rfl, hsz, _⟩ := hv
  obtain ⟨fuel, hf⟩ := h
  obtain ⟨xs, m, rfl, hx, hlen, hn, hel⟩ := DataW.trod_array ht hf
  simp only [Value.cells] at hf hlen hel
  have hl : cs.toList.length = n := by rw [hlen, hct]
  obtain ⟨l, hl2⟩ := bytes_of_each cs.toList (fun v hv => by
    obtain ⟨i, hi, rfl⟩ := List.getElem_of_mem hv
    have h1 := hel i (by omega)
    rw [hce, Nat.mul_one] at h1
    have h2 : (cs.toList.drop i).take 1 = [cs.toList[i]] := by
      rw [List.drop_eq_getElem_cons hi]; rfl
    rw [h2] at h1
    have hxi : i < xs.length := by omega
    rw [List.getElem?_eq_getElem hxi] at h1
    obtain ⟨k, hk, _, hw⟩ := DataW.trod_int he h1
    obtain ⟨x, rfl⟩ := byte_of_wf hw
    exact ⟨x, by simpa using hk⟩)
  refine ⟨l, ?_, ?_⟩
  · have := congrArg List.length hl2
    rw [hl] at this
    simpa using this.symm
  · rw [← hl2]
end
end Go.Proofs.YtlenmkemjaaaoaaDoor
