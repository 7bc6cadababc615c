/- What the laws' walks are told of their arguments: a table, and what its size gives. -/
import Derived.Test.YtlenmkemjaaaoaaDoorOpen
import Derived.Test.YtlenmkemjaaaoaaDoorRm
import Derived.Test.YtlenmkemjaaaoaaDoorRows
import Derived.ProofKit
import Derived.SizedLaws
import Derived.Deep.Slices
import Derived.Deep.Fields
namespace Go.Proofs.YtlenmkemjaaaoaaDoor
open Go.ChangeShapes Go.WideShapes Go.ChangeAt Go.RowKit
section
variable {H : Type} {enc : TypeId × Value → H}
theorem mem_weightsAll {P : Program} {e : TypeId} {n : Nat} {d : DataW H} : ∀ {l : List (DataW H)}, d ∈ l → n ∈ d.weights P e → n ∈ DataW.weightsAll P e l
  | x :: r, hd, hn => by
    simp only [DataW.weightsAll, List.mem_append]
    rcases List.mem_cons.1 hd with rfl | hd
    · exact .inl hn
    · exact .inr (mem_weightsAll hd hn)
theorem cell_lt {w : World} {a : Addr} {v : Value} (h : w.cell? a = some v) : a.block < w.heap.size := World.block_lt_of_cell? _ _ h
/-- A digest, out of its cells. -/
theorem open_dig {W : World} {base fuel : Nat} {held : Bool} {cs : List Value} {y : DataW H × List MemPlace} (h : DataW.trod enc Tryd.prog W base (fun _ => true) held fuel 57 cs = some y) (hc : cs.length = 32) : ∃ d : Str, d.length = 32 ∧ cs = d.map B := by
  obtain ⟨xs, m, _, hx, hlen, hn, hel⟩ := DataW.trod_array Tryd.underlying57 h
  have hce : Tryd.prog.cellsOf 5 = 1 := by kernel_rfl
  obtain ⟨l, hl2⟩ := bytes_of_each cs (fun v hv => by
    obtain ⟨i, hi, rfl⟩ := List.getElem_of_mem hv
    have h1 := hel i (by omega)
    rw [hce, Nat.mul_one] at h1
    have h2 : (cs.drop i).take 1 = [cs[i]] := by
      rw [List.drop_eq_getElem_cons hi]; rfl
    rw [h2] at h1
    have hxi : i < xs.length := by omega
    rw [List.getElem?_eq_getElem hxi] at h1
    obtain ⟨k, hk, _, hw⟩ := DataW.trod_int Tryd.underlying5 h1
    obtain ⟨x, rfl⟩ := byte_of_wf hw
    exact ⟨x, by simpa using hk⟩)
  refine ⟨l, ?_, hl2⟩
  have := congrArg List.length hl2
  rw [hc, List.length_map] at this
  exact this.symm
theorem hCells_of : ∀ {l : List Str}, hOk l → ∀ {j : Nat} {u : Value}, (hCells l)[j]? = some u → ∃ (k : Nat) (d : Str) (i : Nat), l[k]? = some d ∧ j = k * 32 + i ∧ (d.map B)[i]? = some u
  | [], _, j, u, h => by simp [hCells] at h
  | d :: l, ho, j, u, h => by
    rw [hCells_cons] at h
    have hd : (d.map B).length = 32 := by rw [List.length_map]; exact ho d (by simp)
    by_cases hj : j < 32
    · rw [List.getElem?_append_left (by omega)] at h
      exact ⟨0, d, j, rfl, by omega, h⟩
    · rw [List.getElem?_append_right (by omega), hd] at h
      obtain ⟨k, d', i, h1, h2, h3⟩ := hCells_of (l := l) (fun x hx => ho x (by simp [hx])) h
      exact ⟨k + 1, d', i, by simpa using h1, by omega, h3⟩
/-- A slice of digests. -/
theorem open_heads {W : World} {base fuel : Nat} {held : Bool} {v : Value} {y : DataW H × List MemPlace} (h : DataW.trod enc Tryd.prog W base (fun _ => true) held fuel 44 [v] = some y)
    (hw : ∀ n ∈ y.1.weights Tryd.prog 44, n ≤ reachBytes) : ∃ l : List Str, HdIs W (· < W.heap.size) v l ∧ HFit l := by
  have hC : Tryd.prog.cellsOf 57 = 32 := by kernel_rfl
  have hby : Tryd.prog.bytesOf 57 = 32 := by kernel_rfl
  rcases Go.Deep.open_slice Tryd.underlying44 h with ⟨hcs, hx⟩ | ⟨a, len, cap, m, n, D, Pl, hcs, hb, hl, hm, hmm, hx, hi⟩
  · cases hcs
    exact ⟨[], HdIs.nil, by simp, fun d hd => by cases hd⟩
  · cases hcs
    subst hx
    simp only [if_true] at hmm
    subst hmm
    simp only [DataW.weights, Tryd.underlying44, hby] at hw
    have hlen : len ≤ 4398046511104 := by
      have := hw _ (List.mem_cons_self ..)
      simp only [List.length_map, List.length_range] at this
      unfold reachBytes at this
      omega
    have hall : ∀ i, ∃ d : Str, i < len → d.length = 32 ∧ ∀ j u, (d.map B)[j]? = some u → W.cell? (a.add (i * 32 + j)) = some u := by
      intro i
      by_cases him : i < len
      · obtain ⟨cs', hc, ht⟩ := hi i (by omega)
        rw [hC] at hc
        obtain ⟨_, hcl, hat⟩ := World.cells?_some hc
        obtain ⟨d, hd, rfl⟩ := open_dig ht hcl
        refine ⟨d, fun _ => ⟨hd, fun j u hu => ?_⟩⟩
        have hj : j < 32 := by have := (List.getElem?_eq_some_iff.1 hu).1; simpa [hd] using this
        have := hat j hj
        rw [Go.Deep.add_add] at this
        rw [this, hu]
      · exact ⟨[], fun h => absurd h him⟩
    obtain ⟨T, hT⟩ := Classical.axiomOfChoice hall
    have hok : hOk ((List.range len).map T) := fun d hd => by
      obtain ⟨i, hi', rfl⟩ := List.mem_map.1 hd
      exact (hT i (List.mem_range.1 hi')).1
    refine ⟨(List.range len).map T, ⟨some a, m, by simp, by simpa using hl, fun hn => ⟨a, rfl, ?_, fun j u hu => ?_⟩⟩, by simpa using hlen, hok⟩
    · have h0 : 0 < len := by
        rcases Nat.eq_zero_or_pos len with h0 | h0
        · subst h0; simp [hCells] at hn
        · exact h0
      have h1 := (hT 0 h0).1
      have := cell_lt ((hT 0 h0).2 0 (B (T 0)[0]) (by rw [List.getElem?_map, List.getElem?_eq_getElem (by omega)]; rfl))
      simpa [Addr.add] using this
    · obtain ⟨k, d, i, h1, rfl, h3⟩ := hCells_of hok hu
      rw [List.getElem?_map] at h1
      have hkn : k < len := by
        rcases Nat.lt_or_ge k len with h2 | h2
        · exact h2
        · rw [List.getElem?_eq_none (by simpa using h2)] at h1; cases h1
      rw [List.getElem?_range hkn] at h1
      simp only [Option.map_some, Option.some.injEq] at h1
      subst h1
      exact (hT k hkn).2 i u h3
theorem tCells_of : ∀ {T : Tab} {vs : List Value}, vs.length = T.length → ∀ {j : Nat} {u : Value}, (tCells T vs)[j]? = some u → ∃ (k : Nat) (b : Br) (v : Value), T[k]? = some b ∧ vs[k]? = some v ∧ ((j = k * 2 ∧ u = strV b.name) ∨ (j = k * 2 + 1 ∧ u = v))
  | [], [], _, j, u, h => by simp [tCells] at h
  | b :: T, v :: vs, hl, j, u, h => by
    have e : tCells (b :: T) (v :: vs) = strV b.name :: v :: tCells T vs := rfl
    rw [e] at h
    match j, h with
    | 0, h => exact ⟨0, b, v, rfl, rfl, .inl ⟨rfl, by simpa using h.symm⟩⟩
    | 1, h => exact ⟨0, b, v, rfl, rfl, .inr ⟨rfl, by simpa using h.symm⟩⟩
    | j + 2, h =>
      simp only [List.getElem?_cons_succ] at h
      obtain ⟨k, b', v', h1, h2, h3⟩ := tCells_of (T := T) (vs := vs) (by simpa using hl) h
      refine ⟨k + 1, b', v', by simpa using h1, by simpa using h2, ?_⟩
      rcases h3 with ⟨h4, h5⟩ | ⟨h4, h5⟩
      · exact .inl ⟨by omega, h5⟩
      · exact .inr ⟨by omega, h5⟩
set_option maxRecDepth 100000 in
/-- A branch, out of its two cells. -/
theorem open_br {W : World} {base fuel : Nat} {held : Bool} {cs : List Value} {y : DataW H × List MemPlace} (h : DataW.trod enc Tryd.prog W base (fun _ => true) held fuel 61 cs = some y)
    (hw : ∀ n ∈ y.1.weights Tryd.prog 61, n ≤ reachBytes) : ∃ (b : Br) (v : Value), cs = [strV b.name, v] ∧ HdIs W (· < W.heap.size) v b.heads ∧ BFit b := by
  have hu := Tryd.underlying61
  have hC : Tryd.prog.cellsOf 61 = 2 := by kernel_rfl
  obtain ⟨xs, n, _, hx, hcl, hlen, hg⟩ := DataW.trod_struct hu h
  rw [hC] at hcl
  have k9 : Tryd.prog.cellsOf 9 = 1 := by kernel_rfl
  have k44 : Tryd.prog.cellsOf 44 = 1 := by kernel_rfl
  match cs, hcl, xs, hlen with
  | [c0, c1], _, [y0, y1], _ =>
    have g0 : DataW.trod enc Tryd.prog W base (fun _ => true) held n 9 [c0] = some y0 := by have := hg 0 _ rfl; simpa [k9] using this
    have g1 : DataW.trod enc Tryd.prog W base (fun _ => true) held n 44 [c1] = some y1 := by have := hg 1 _ rfl; simpa [k44] using this
    obtain ⟨s0, e0, z0, _⟩ := DataW.trod_string Tryd.underlying9 g0
    rw [hx] at hw
    simp only [List.map_cons, List.map_nil, DataW.weights, hu, DataW.weightsEach, List.mem_append] at hw
    obtain ⟨l, hl, hf⟩ := open_heads g1 (fun q hq => hw q (by simp [hq]))
    cases e0
    subst z0
    have l2 : s0.data.toList.length ≤ reachBytes := hw _ (by simp [DataW.weights])
    unfold reachBytes at l2
    exact ⟨⟨s0.data.toList, l⟩, c1, by simp [strV], hl, ⟨by show s0.data.toList.length ≤ _; omega, hf⟩⟩
set_option maxRecDepth 100000 in
/-- A table. -/
theorem open_tab {W : World} {base : Nat} {held : Bool} {a0 : Option Addr} {n0 c0 : Nat} {d : DataW H} {p : List MemPlace}
    (h : DataW.Trod enc Tryd.prog W base (fun _ => true) held 22 (.slice a0 n0 c0) d p) (hw : ∀ n ∈ d.weights Tryd.prog 22, n ≤ reachBytes) :
    ∃ T : Tab, TabIs W (· < W.heap.size) (.slice a0 n0 c0) T ∧ TFit T := by
  obtain ⟨fuel, hf⟩ := h
  have hv : (Value.slice a0 n0 c0).cells.toList = [Value.slice a0 n0 c0] := rfl
  have hC : Tryd.prog.cellsOf 61 = 2 := by kernel_rfl
  have hby : Tryd.prog.bytesOf 61 = 40 := by kernel_rfl
  rw [hv] at hf
  rcases Go.Deep.open_slice Tryd.underlying22 hf with ⟨hcs, hx⟩ | ⟨a, len, cap, m, n, D, Pl, hcs, hb, hl, hm, hmm, hx, hi⟩
  · cases hcs
    exact ⟨[], TabIs.nil, by simp, fun d hd => by cases hd⟩
  · cases hcs
    simp only [Prod.mk.injEq] at hx
    obtain ⟨rfl, rfl⟩ := hx
    simp only [if_true] at hmm
    subst hmm
    simp only [DataW.weights, Tryd.underlying22, hby] at hw
    have hlen : n0 ≤ 3518437208832 := by
      have := hw _ (List.mem_cons_self ..)
      simp only [List.length_map, List.length_range] at this
      unfold reachBytes at this
      omega
    have hall : ∀ i, ∃ x : Br × Value, i < n0 → HdIs W (· < W.heap.size) x.2 x.1.heads ∧ BFit x.1 ∧ W.cell? (a.add (i * 2)) = some (strV x.1.name) ∧ W.cell? (a.add (i * 2 + 1)) = some x.2 := by
      intro i
      by_cases him : i < n0
      · obtain ⟨cs', hc, ht⟩ := hi i (by omega)
        rw [hC] at hc
        obtain ⟨b, v, rfl, hh, hfit⟩ := open_br ht (fun q hq => hw q (by
          refine List.mem_cons_of_mem _ (List.mem_append_left _ ?_)
          exact mem_weightsAll (List.mem_map.2 ⟨i, List.mem_range.2 him, rfl⟩) hq))
        obtain ⟨_, _, hat⟩ := World.cells?_some hc
        have h0 := hat 0 (by omega)
        have h1 := hat 1 (by omega)
        rw [Go.Deep.add_add] at h0 h1
        exact ⟨(b, v), fun _ => ⟨hh, hfit, h0, h1⟩⟩
      · exact ⟨(⟨[], []⟩, undef), fun h => absurd h him⟩
    obtain ⟨F, hF⟩ := Classical.axiomOfChoice hall
    refine ⟨(List.range n0).map fun i => (F i).1, ⟨some a, m, (List.range n0).map fun i => (F i).2, by simp, by simp, by simpa using hl, fun hn => ⟨a, rfl, ?_, fun j u hu => ?_⟩, fun k b u h1 h2 => ?_⟩, by simpa using hlen, fun b hb => ?_⟩
    · have h0 : 0 < n0 := by
        rcases Nat.eq_zero_or_pos n0 with h0 | h0
        · subst h0; simp [tCells] at hn
        · exact h0
      have := cell_lt (hF 0 h0).2.2.1
      simpa [Addr.add] using this
    · obtain ⟨k, b, v, h1, h2, h3⟩ := tCells_of (by simp) hu
      rw [List.getElem?_map] at h1 h2
      have hkn : k < n0 := by
        rcases Nat.lt_or_ge k n0 with h4 | h4
        · exact h4
        · rw [List.getElem?_eq_none (by simpa using h4)] at h1; cases h1
      rw [List.getElem?_range hkn] at h1 h2
      simp only [Option.map_some, Option.some.injEq] at h1 h2
      subst h1; subst h2
      rcases h3 with ⟨rfl, rfl⟩ | ⟨rfl, rfl⟩
      · exact (hF k hkn).2.2.1
      · exact (hF k hkn).2.2.2
    · rw [List.getElem?_map] at h1 h2
      have hkn : k < n0 := by
        rcases Nat.lt_or_ge k n0 with h4 | h4
        · exact h4
        · rw [List.getElem?_eq_none (by simpa using h4)] at h1; cases h1
      rw [List.getElem?_range hkn] at h1 h2
      simp only [Option.map_some, Option.some.injEq] at h1 h2
      subst h1; subst h2
      exact (hF k hkn).1
    · obtain ⟨i, hi', rfl⟩ := List.mem_map.1 hb
      exact (hF i (List.mem_range.1 hi')).2.1
end
end Go.Proofs.YtlenmkemjaaaoaaDoor
