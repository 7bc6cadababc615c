/- What the walks are told of an argument: a slice of slices of bytes; and what the bound on its bulk gives. -/
import Derived.Test.YtahjfnnmaalnoaaDoorOpen
import Derived.Test.YtahjfnnmaalnoaaDoorWalkPieces
import Derived.Test.YtahjfnnmaalnoaaDoorRows
import Derived.Deep.Matrix
namespace Go.Proofs.YtahjfnnmaalnoaaDoor
open Go.ChangeShapes Go.WideShapes Go.ChangeAt Go.RowKit
section
variable {H : Type} {enc : TypeId × Value → H} {P : Program}
theorem one_le_bulk (d : DataW H) : 1 ≤ Rows.uptoBulk d := by
  cases d with
  | lit l => cases l <;> simp [Rows.uptoBulk]
  | _ => simp [Rows.uptoBulk]
theorem length_le_bulk (l : List (DataW H)) : l.length ≤ Rows.uptoBulkAll l := by
  induction l with
  | nil => simp [Rows.uptoBulkAll]
  | cons x r ih => have := one_le_bulk x; simp only [Rows.uptoBulkAll, List.length_cons]; omega
theorem cell_lt {w : World} {a : Addr} {v : Value} (h : w.cell? a = some v) : a.block < w.heap.size := by
  have h1 : Rd w (fun _ => True) (some a) [v] := fun _ => ⟨a, rfl, trivial, fun j u hu => by
    cases j with
    | zero => simp at hu; subst hu; simpa [Addr.add] using h
    | succ j => simp at hu⟩
  obtain ⟨ad, e, hb, _⟩ := (h1.weak (ok' := (· < w.heap.size)) fun b hb _ => hb) (by simp)
  cases e
  exact hb
theorem bytes_of_wf : ∀ (zs : List Int), (∀ n ∈ zs, (Lit.int .u8 n).wf = true) → ∃ l : List UInt8, zs = l.map bv
  | [], _ => ⟨[], rfl⟩
  | z :: zs, h => by
    obtain ⟨x, rfl⟩ := byte_of_wf (h z (by simp))
    obtain ⟨l, rfl⟩ := bytes_of_wf zs (fun v hv => h v (by simp [hv]))
    exact ⟨x :: l, rfl⟩
theorem flatten_le_bulk (xss : List (List UInt8)) (ds : List (DataW H)) (hl : xss.length = ds.length) (h : ∀ k (h1 : k < xss.length) (h2 : k < ds.length), xss[k].length ≤ Rows.uptoBulk ds[k]) : xss.flatten.length ≤ Rows.uptoBulkAll ds := by
  induction xss generalizing ds with
  | nil => simp
  | cons x xs ih =>
    cases ds with
    | nil => simp at hl
    | cons d ds =>
      have h0 := h 0 (by simp) (by simp)
      have h1 := ih ds (by simpa using hl) (fun k h1 h2 => h (k + 1) (by simpa using h1) (by simpa using h2))
      simp only [List.getElem_cons_zero] at h0
      simp only [List.flatten_cons, List.length_append, Rows.uptoBulkAll]
      omega
/-- A slice of slices of bytes. -/
theorem open_rows {t e q : TypeId} (ht : P.underlying t = some (.slice e)) (he : P.underlying e = some (.slice q)) (hq : P.underlying q = some (.int .u8)) (ce : P.cellsOf e = 1) (cq : P.cellsOf q = 1)
    {W : World} {base : Nat} {held : Bool} {a0 : Option Addr} {n0 c0 : Nat} {d : DataW H} {p : List MemPlace}
    (h : DataW.Trod enc P W base (fun _ => true) held t (.slice a0 n0 c0) d p) :
    ∃ xss : List (List UInt8), n0 = xss.length ∧ RowsIn W a0 xss ∧ xss.flatten.length ≤ Rows.uptoBulk d ∧ xss.length ≤ Rows.uptoBulk d := by
  obtain ⟨fuel, hf⟩ := h
  rcases Go.Deep.open_int_rows ht he hq ce cq hf with ⟨hcs, hx⟩ | ⟨a, len, cap, A, L, C, Z, hcs, hb, hl, hm, hx, hr⟩
  · have hv : (Value.slice a0 n0 c0).cells.toList = [Value.slice a0 n0 c0] := rfl
    rw [hv] at hcs
    cases hcs
    exact ⟨[], rfl, fun k hk => absurd hk (by simp), by simp, by simp⟩
  · have hv : (Value.slice a0 n0 c0).cells.toList = [Value.slice a0 n0 c0] := rfl
    rw [hv] at hcs
    cases hcs
    simp only [Prod.mk.injEq] at hx
    obtain ⟨rfl, rfl⟩ := hx
    have hz : ∀ r, ∃ l : List UInt8, r < c0 → Z r = l.map bv := fun r => by
      by_cases hrc : r < c0
      · obtain ⟨l, hl⟩ := bytes_of_wf (Z r) (hr r hrc).2.2.2.2.1
        exact ⟨l, fun _ => hl⟩
      · exact ⟨[], fun h => absurd h hrc⟩
    obtain ⟨Y, hY⟩ := Classical.axiomOfChoice hz
    have hlen : ∀ r, r < c0 → ((Y r).take (L r)).length = L r := fun r hrc => by
      obtain ⟨_, h1, _, h2, _⟩ := hr r hrc
      rw [hY r hrc] at h2
      simp at h2 ⊢
      omega
    refine ⟨(List.range n0).map fun r => (Y r).take (L r), by simp, ?_, ?_, ?_⟩
    · intro k hk
      simp only [List.length_map, List.length_range] at hk
      obtain ⟨hc, h1, h2, h3, h4, h5, h6⟩ := hr k (by omega)
      have hg : ((List.range n0).map fun r => (Y r).take (L r)).getD k [] = (Y k).take (L k) := by simp [hk]
      rw [hg, hlen k (by omega)]
      have hlt := cell_lt hc
      have hspot := World.cell?_spot (hr 0 (by omega)).1
      obtain ⟨b, off, spot⟩ := a
      have hspot : spot = none := by simpa [Addr.add] using hspot
      subst hspot
      rw [addr_add] at hc hlt
      refine ⟨b, off, A k, C k, rfl, hlt, hc, h1, fun hn => ?_⟩
      have hLk : 0 < L k := by
        have := hlen k (by omega)
        simp only [List.length_map] at hn
        omega
      cases hA : A k with
      | none => have := h5 hA; omega
      | some a' =>
        obtain ⟨_, h7⟩ := h6 a' hA
        refine ⟨a', rfl, ?_, fun j u hu => ?_⟩
        · have := cell_lt (h7 0 (by omega))
          simpa [Addr.add] using this
        · have hj : j < L k := by
            have h8 := (List.getElem?_eq_some_iff.1 hu).1
            have := hlen k (by omega)
            simp only [List.length_map] at h8
            omega
          rw [h7 j (by omega), hY k (by omega)]
          rw [← hu, List.getElem?_map, List.getElem?_take_of_lt hj]
          have h9 : j < (Y k).length := by
            rw [hY k (by omega)] at h3
            simp at h3
            omega
          simp [h9, B]
    · have h1 := flatten_le_bulk (H := H) ((List.range n0).map fun r => (Y r).take (L r)) ((List.range n0).map fun r => Go.Deep.intRow .u8 (A r) (L r) (Z r)) (by simp) (fun k h1 h2 => by
        simp only [List.getElem_map, List.getElem_range]
        simp only [List.length_map, List.length_range] at h1
        rw [hlen k (by omega)]
        obtain ⟨hc, g1, g2, g3, g4, g5, g6⟩ := hr k (by omega)
        unfold Go.Deep.intRow
        cases hA : A k with
        | none => have := g5 hA; simp [Rows.uptoBulk]; omega
        | some a' =>
          have := length_le_bulk (H := H) (lits .u8 ((Z k).take (L k)))
          have h0 : (lits (H := H) .u8 ((Z k).take (L k))).length = L k := by
            simp only [lits, List.length_map, List.length_take]
            omega
          rw [h0] at this
          show L k ≤ Rows.uptoBulk (DataW.slice _ _)
          simp only [Rows.uptoBulk]
          omega)
      simp only [Rows.uptoBulk]
      omega
    · have := length_le_bulk (H := H) ((List.range n0).map fun r => Go.Deep.intRow .u8 (A r) (L r) (Z r))
      simp only [List.length_map, List.length_range] at this
      simp only [Rows.uptoBulk, List.length_map, List.length_range]
      omega
end
end Go.Proofs.YtahjfnnmaalnoaaDoor
