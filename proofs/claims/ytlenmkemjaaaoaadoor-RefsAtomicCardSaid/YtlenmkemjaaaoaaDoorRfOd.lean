/- What the laws' walks are told of their arguments: rows of changes. -/
import Derived.Test.YtlenmkemjaaaoaaDoorRfOn
namespace Go.Proofs.YtlenmkemjaaaoaaDoor
open Go.ChangeShapes Go.WideShapes Go.ChangeAt Go.RowKit
section
variable {H : Type} {enc : TypeId × Value → H}
theorem cCells_of : ∀ {C : List Chg} {vs : List (Value × Value)}, vs.length = C.length → ∀ {j : Nat} {u : Value}, (cCells C vs)[j]? = some u → ∃ (k : Nat) (b : Chg) (v : Value × Value) (i : Nat), C[k]? = some b ∧ vs[k]? = some v ∧ j = k * 3 + i ∧ [strV b.name, v.1, v.2][i]? = some u
  | [], [], _, j, u, h => by simp [cCells] at h
  | b :: C, v :: vs, hl, j, u, h => by
    have e : cCells (b :: C) (v :: vs) = strV b.name :: v.1 :: v.2 :: cCells C vs := rfl
    rw [e] at h
    match j, h with
    | 0, h => exact ⟨0, b, v, 0, rfl, rfl, rfl, by simpa using h⟩
    | 1, h => exact ⟨0, b, v, 1, rfl, rfl, rfl, by simpa using h⟩
    | 2, h => exact ⟨0, b, v, 2, rfl, rfl, rfl, by simpa using h⟩
    | j + 3, h =>
      simp only [List.getElem?_cons_succ] at h
      obtain ⟨k, b', v', i, h1, h2, h3, h4⟩ := cCells_of (C := C) (vs := vs) (by simpa using hl) h
      exact ⟨k + 1, b', v', i, by simpa using h1, by simpa using h2, by omega, h4⟩
set_option maxRecDepth 100000 in
/-- A change, out of its three cells. -/
theorem open_ch {W : World} {base fuel : Nat} {held : Bool} {cs : List Value} {y : DataW H × List MemPlace} (h : DataW.trod enc Tryd.prog W base (fun _ => true) held fuel 46 cs = some y)
    (hw : ∀ n ∈ y.1.weights Tryd.prog 46, n ≤ reachBytes) : ∃ (b : Chg) (v : Value × Value), cs = [strV b.name, v.1, v.2] ∧ HdIs W (· < W.heap.size) v.1 b.old ∧ HdIs W (· < W.heap.size) v.2 b.new ∧ CFit1 b := by
  have hu := Tryd.underlying46
  have hC : Tryd.prog.cellsOf 46 = 3 := by kernel_rfl
  obtain ⟨xs, n, _, hx, hcl, hlen, hg⟩ := DataW.trod_struct hu h
  rw [hC] at hcl
  have k9 : Tryd.prog.cellsOf 9 = 1 := by kernel_rfl
  have k44 : Tryd.prog.cellsOf 44 = 1 := by kernel_rfl
  match cs, hcl, xs, hlen with
  | [c0, c1, c2], _, [y0, y1, y2], _ =>
    have g0 : DataW.trod enc Tryd.prog W base (fun _ => true) held n 9 [c0] = some y0 := by have := hg 0 _ rfl; simpa [k9] using this
    have g1 : DataW.trod enc Tryd.prog W base (fun _ => true) held n 44 [c1] = some y1 := by have := hg 1 _ rfl; simpa [k9, k44] using this
    have g2 : DataW.trod enc Tryd.prog W base (fun _ => true) held n 44 [c2] = some y2 := by have := hg 2 _ rfl; simpa [k9, k44] using this
    obtain ⟨s0, e0, z0, _⟩ := DataW.trod_string Tryd.underlying9 g0
    rw [hx] at hw
    simp only [List.map_cons, List.map_nil, DataW.weights, hu, DataW.weightsEach, List.mem_append] at hw
    obtain ⟨l, hl, hf⟩ := open_heads g1 (fun q hq => hw q (by simp [hq]))
    obtain ⟨l', hl', hf'⟩ := open_heads g2 (fun q hq => hw q (by simp [hq]))
    cases e0
    subst z0
    have l2 : s0.data.toList.length ≤ reachBytes := hw _ (by simp [DataW.weights])
    unfold reachBytes at l2
    exact ⟨⟨s0.data.toList, l, l'⟩, (c1, c2), by simp [strV], hl, hl', ⟨by show s0.data.toList.length ≤ _; omega, hf, hf'⟩⟩
set_option maxRecDepth 100000 in
/-- A row of changes, out of one cell. -/
theorem open_chs1 {W : World} {base fuel : Nat} {held : Bool} {v : Value} {y : DataW H × List MemPlace}
    (h : DataW.trod enc Tryd.prog W base (fun _ => true) held fuel 37 [v] = some y) (hw : ∀ n ∈ y.1.weights Tryd.prog 37, n ≤ reachBytes) :
    ∃ C : List Chg, ChsIs W (· < W.heap.size) v C ∧ CFit C := by
  have hC : Tryd.prog.cellsOf 46 = 3 := by kernel_rfl
  have hby : Tryd.prog.bytesOf 46 = 64 := by kernel_rfl
  rcases Go.Deep.open_slice Tryd.underlying37 h with ⟨hcs, hx⟩ | ⟨a, len, cap, m, n, D, Pl, hcs, hb, hl, hm, hmm, hx, hi⟩
  · cases hcs
    exact ⟨[], ChsIs.nil, by simp, fun d hd => by cases hd⟩
  · cases hcs
    subst hx
    simp only [if_true] at hmm
    subst hmm
    simp only [DataW.weights, Tryd.underlying37, hby] at hw
    have hlen : len ≤ 2199023255552 := by
      have := hw _ (List.mem_cons_self ..)
      simp only [List.length_map, List.length_range] at this
      unfold reachBytes at this
      omega
    have hall : ∀ i, ∃ x : Chg × (Value × Value), i < len → (HdIs W (· < W.heap.size) x.2.1 x.1.old ∧ HdIs W (· < W.heap.size) x.2.2 x.1.new) ∧ CFit1 x.1 ∧ ∀ j u, [strV x.1.name, x.2.1, x.2.2][j]? = some u → W.cell? (a.add (i * 3 + j)) = some u := by
      intro i
      by_cases him : i < len
      · obtain ⟨cs', hc, ht⟩ := hi i (by omega)
        rw [hC] at hc
        obtain ⟨b, v, rfl, hh, hh', hfit⟩ := open_ch ht (fun q hq => hw q (by
          refine List.mem_cons_of_mem _ (List.mem_append_left _ ?_)
          exact mem_weightsAll (List.mem_map.2 ⟨i, List.mem_range.2 him, rfl⟩) hq))
        obtain ⟨_, _, hat⟩ := World.cells?_some hc
        refine ⟨(b, v), fun _ => ⟨⟨hh, hh'⟩, hfit, fun j u hu => ?_⟩⟩
        have hj : j < 3 := by have := (List.getElem?_eq_some_iff.1 hu).1; simpa using this
        have h0 := hat j hj
        rw [Go.Deep.add_add] at h0
        rw [h0, ← hu]
      · exact ⟨(⟨[], [], []⟩, undef, undef), fun h => absurd h him⟩
    obtain ⟨F, hF⟩ := Classical.axiomOfChoice hall
    refine ⟨(List.range len).map fun i => (F i).1, ⟨some a, m, (List.range len).map fun i => (F i).2, by simp, by simp, by simpa using hl, fun hn => ⟨a, rfl, ?_, fun j u hu => ?_⟩, fun k b u h1 h2 => ?_⟩, by simpa using hlen, fun b hb => ?_⟩
    · have h0 : 0 < len := by
        rcases Nat.eq_zero_or_pos len with h0 | h0
        · subst h0; simp [cCells] at hn
        · exact h0
      have := cell_lt ((hF 0 h0).2.2 0 _ rfl)
      simpa [Addr.add] using this
    · obtain ⟨k, b, v, i, h1, h2, rfl, h4⟩ := cCells_of (by simp) hu
      rw [List.getElem?_map] at h1 h2
      have hkn : k < len := by
        rcases Nat.lt_or_ge k len with h5 | h5
        · exact h5
        · rw [List.getElem?_eq_none (by simpa using h5)] at h1; cases h1
      rw [List.getElem?_range hkn] at h1 h2
      simp only [Option.map_some, Option.some.injEq] at h1 h2
      subst h1; subst h2
      exact (hF k hkn).2.2 i u h4
    · rw [List.getElem?_map] at h1 h2
      have hkn : k < len := by
        rcases Nat.lt_or_ge k len with h4 | h4
        · exact h4
        · rw [List.getElem?_eq_none (by simpa using h4)] at h1; cases h1
      rw [List.getElem?_range hkn] at h1 h2
      simp only [Option.map_some, Option.some.injEq] at h1 h2
      subst h1; subst h2
      exact (hF k hkn).1
    · obtain ⟨i, hi', rfl⟩ := List.mem_map.1 hb
      exact (hF i (List.mem_range.1 hi')).2.1
theorem open_chs {W : World} {base : Nat} {held : Bool} {v : Value} {d : DataW H} {p : List MemPlace}
    (h : DataW.Trod enc Tryd.prog W base (fun _ => true) held 37 v d p) (hv : v.cells.toList = [v]) (hw : ∀ n ∈ d.weights Tryd.prog 37, n ≤ reachBytes) :
    ∃ C : List Chg, ChsIs W (· < W.heap.size) v C ∧ CFit C := by
  obtain ⟨fuel, hf⟩ := h
  rw [hv] at hf
  exact open_chs1 hf hw
end
end Go.Proofs.YtlenmkemjaaaoaaDoor
