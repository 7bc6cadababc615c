/- What the walks are told of an argument: a slice of bytes, and what its weight gives. -/
import Derived.Test.YtahjfnnmaalnoaaDoorOpen
import Derived.ChangeSlices
namespace Go.Proofs.YtahjfnnmaalnoaaDoor
open Go.ChangeShapes Go.WideShapes Go.ChangeAt Go.RowKit
section
variable {H : Type} {enc : TypeId × Value → H} {P : Program}
theorem cell_blk_lt {w : World} {a : Addr} {v : Value} (h : w.cell? a = some v) : a.block < w.heap.size := by
  have h1 : Rd w (fun _ => True) (some a) [v] := fun _ => ⟨a, rfl, trivial, fun j u hu => by
    cases j with
    | zero => simp at hu; subst hu; simpa [Addr.add] using h
    | succ j => simp at hu⟩
  obtain ⟨ad, e, hb, _⟩ := (h1.weak (ok' := (· < w.heap.size)) fun b hb _ => hb) (by simp)
  cases e
  exact hb
theorem nums_of_wf : ∀ (zs : List Int), (∀ n ∈ zs, (Lit.int .u8 n).wf = true) → ∃ l : List UInt8, zs = l.map bv
  | [], _ => ⟨[], rfl⟩
  | z :: zs, h => by
    obtain ⟨x, rfl⟩ := byte_of_wf (h z (by simp))
    obtain ⟨l, rfl⟩ := nums_of_wf zs (fun v hv => h v (by simp [hv]))
    exact ⟨x :: l, rfl⟩
/-- A slice of bytes. -/
theorem open_bytes {t e : TypeId} (ht : P.underlying t = some (.slice e)) (he : P.underlying e = some (.int .u8)) (hce : P.cellsOf e = 1) (hbe : P.bytesOf e = 1) {W : World} {r : Reach} {b0 base : Nat} {held : Bool} {v : Value} {d : DataW H} {p : List MemPlace}
    (hv : Value.okWide P W r b0 t v) (h : DataW.Trod enc P W base (fun _ => true) held t v d p) :
    ∃ (l : List UInt8) (A : Option Addr) (cap : Nat), v = .slice A l.length cap ∧ Rd W (· < W.heap.size) A (l.map B) ∧ l.length ≤ cap ∧ ((DataW.weights P t d).all (· ≤ reachBytes) = true → l.length ≤ 140737488351232) := by
  obtain ⟨A, len, cap, rfl⟩ := okWide_slice ht hv
  obtain ⟨fuel, hf⟩ := h
  have hcs1 : (Value.slice A len cap).cells.toList = [Value.slice A len cap] := rfl
  rcases open_ints ht he hce hf with ⟨hcs, hx⟩ | ⟨a, len', cap', zs, hcs, _, hl, hm, hz, hx, hcell, hwz⟩
  · rw [hcs1] at hcs
    cases hcs
    exact ⟨[], none, 0, rfl, fun hn => absurd hn (by simp), Nat.le_refl _, fun _ => by simp⟩
  · rw [hcs1] at hcs
    cases hcs
    simp only [Prod.mk.injEq] at hx
    obtain ⟨rfl, rfl⟩ := hx
    simp only [if_true] at hz
    obtain ⟨l, rfl⟩ := nums_of_wf zs hwz
    simp only [List.length_map] at hz
    have hlen : (l.take len).length = len := by simp; omega
    refine ⟨l.take len, some a, cap, by rw [hlen], fun hn => ⟨a, rfl, ?_, fun j u hu => ?_⟩, by rw [hlen]; exact hl, fun hw => ?_⟩
    · simp only [List.length_map, hlen] at hn
      have := cell_blk_lt (hcell 0 (by simp only [List.length_map]; omega))
      simpa [Addr.add] using this
    · have hj : j < len := by
        have := (List.getElem?_eq_some_iff.1 hu).1
        simp only [List.length_map, hlen] at this
        exact this
      rw [hcell j (by simp only [List.length_map]; omega), ← hu, List.getElem?_map, List.getElem?_take_of_lt hj]
      have h9 : j < l.length := by omega
      simp [h9, B]
    · rw [hlen]
      simp only [DataW.weights, ht, hbe, List.all_cons, Bool.and_eq_true, decide_eq_true_eq, lits, List.length_map] at hw
      have h1 := hw.1
      simp only [reachBytes, List.length_take, List.length_drop, List.length_map] at h1
      omega
end
end Go.Proofs.YtahjfnnmaalnoaaDoor
