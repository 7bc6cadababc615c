/- What the laws' walks are told of their arguments: rows of rows of changes, numbers, two slices of numbers, truths. -/
import Derived.Test.YtlenmkemjaaaoaaDoorRfOd
import Derived.Test.YtlenmkemjaaaoaaDoorDk
import Derived.ChangeSlices
namespace Go.Proofs.YtlenmkemjaaaoaaDoor
open Go.ChangeShapes Go.WideShapes Go.ChangeAt Go.RowKit

/-- The value v is a slice of rows of changes that reads as Cs. -/
def RwIs (w : World) (ok : Nat → Prop) (v : Value) (Cs : List (List Chg)) : Prop := ∃ (A : Option Addr) (c : Nat) (vs : List Value), vs.length = Cs.length ∧ v = .slice A Cs.length c ∧ Cs.length ≤ c ∧ Rd w ok A vs ∧ ∀ (k : Nat) b u, Cs[k]? = some b → vs[k]? = some u → ChsIs w ok u b
theorem RwIs.stay {w w' : World} {ok ok' : Nat → Prop} {v : Value} {Cs : List (List Chg)} (h : RwIs w ok v Cs) (hk : ∀ b, ok b → b < w.heap.size → w'.heap[b]? = w.heap[b]?) (ho : ∀ b, ok b → b < w.heap.size → ok' b) : RwIs w' ok' v Cs := by
  obtain ⟨A, c, vs, hl, e, hc, hr, hh⟩ := h
  exact ⟨A, c, vs, hl, e, hc, hr.stay hk ho, fun k b u h1 h2 => (hh k b u h1 h2).stay hk ho⟩
theorem RwIs.low {w w' : World} {B : Nat} {v : Value} {Cs : List (List Chg)} (h : RwIs w (· < B) v Cs) (hb : Below B w w') : RwIs w' (· < B) v Cs := h.stay (fun b hlt _ => hb.block b hlt) (fun _ h _ => h)
theorem RwIs.form {w : World} {ok : Nat → Prop} {v : Value} {Cs : List (List Chg)} (h : RwIs w ok v Cs) : ∃ A c, v = .slice A Cs.length c ∧ Cs.length ≤ c := by
  obtain ⟨A, c, vs, hl, e, hc, _⟩ := h
  exact ⟨A, c, e, hc⟩
theorem RwIs.at {w : World} {ok : Nat → Prop} {A : Option Addr} {n c : Nat} {Cs : List (List Chg)} (h : RwIs w ok (.slice A n c) Cs) (k : Nat) (hk : k < Cs.length) : ∃ b o u, A = some ⟨b, o, none⟩ ∧ ok b ∧ b < w.heap.size ∧ ChsIs w ok u Cs[k] ∧ w.cell? ⟨b, o + k, none⟩ = some u := by
  obtain ⟨A', c', vs, hl, e, hc, hr, hh⟩ := h
  injection e with e1 e2 e3
  subst e1
  obtain ⟨b, o, rfl, hb, hlt, hcell⟩ := hr.at (by omega)
  have hv : vs[k]? = some vs[k] := List.getElem?_eq_getElem (by omega)
  exact ⟨b, o, vs[k], rfl, hb, hlt, hh k _ _ (List.getElem?_eq_getElem hk) hv, hcell _ _ hv⟩
/-- The value v is a slice of numbers that reads as l. -/
def NmIs (w : World) (ok : Nat → Prop) (v : Value) (l : List Int) : Prop := ∃ (A : Option Addr) (c : Nat), v = .slice A l.length c ∧ l.length ≤ c ∧ Nums w ok A l
structure NmFit (l : List Int) : Prop where
  len : l.length ≤ 17592186044416
  max : ∀ x ∈ l, x ≤ 9223372036854775807
/-- The value v is a slice of truths that reads as l. -/
def BsIs (w : World) (ok : Nat → Prop) (v : Value) (l : List Bool) : Prop := ∃ (A : Option Addr) (c : Nat), v = .slice A l.length c ∧ l.length ≤ c ∧ Rd w ok A (l.map .bool)
section
variable {H : Type} {enc : TypeId × Value → H}
theorem wf_i64 {k : Int} (h : (Lit.int .i64 k).wf = true) : -9223372036854775808 ≤ k ∧ k ≤ 9223372036854775807 := by
  simpa [Lit.wf, IntKind.min, IntKind.max, IntKind.signed, IntKind.bits] using h
theorem open_nums1 {W : World} {base fuel : Nat} {held : Bool} {v : Value} {y : DataW H × List MemPlace}
    (hf : DataW.trod enc Tryd.prog W base (fun _ => true) held fuel 65 [v] = some y) (hw : ∀ n ∈ y.1.weights Tryd.prog 65, n ≤ reachBytes) :
    ∃ l : List Int, NmIs W (· < W.heap.size) v l ∧ NmFit l := by
  have hby : Tryd.prog.bytesOf 3 = 8 := by kernel_rfl
  rcases open_ints Tryd.underlying65 Tryd.underlying3 (by kernel_rfl) hf with ⟨hcs, hx⟩ | ⟨a, len, cap, zs, hcs, _, hl, hm, hz, hx, hcell, hwz⟩
  · cases hcs
    exact ⟨[], ⟨none, 0, rfl, Nat.le_refl _, Rd.nil⟩, by simp, by simp⟩
  · cases hcs
    subst hx
    simp only [if_true] at hz
    have hlen : (zs.take len).length = len := by simp; omega
    simp only [DataW.weights, Tryd.underlying65, hby] at hw
    have h8 := hw _ (List.mem_cons_self ..)
    simp only [lits, List.length_map, List.length_take, List.length_drop] at h8
    unfold reachBytes at h8
    refine ⟨zs.take len, ⟨some a, cap, by rw [hlen], by rw [hlen]; exact hl, ?_⟩, by rw [hlen]; omega, ?_⟩
    · intro hn
      simp only [List.length_map, hlen] at hn
      refine ⟨a, rfl, ?_, fun j u hu => ?_⟩
      · have := cell_lt (hcell 0 (by omega))
        simpa [Addr.add] using this
      · have hj : j < len := by
          have := (List.getElem?_eq_some_iff.1 hu).1
          simp only [List.length_map, hlen] at this
          exact this
        rw [hcell j (by omega), ← hu, List.getElem?_map, List.getElem?_take_of_lt hj]
        have h9 : j < zs.length := by omega
        simp [h9, intV]
    · intro x hx
      exact (wf_i64 (hwz x (List.mem_of_mem_take hx))).2
theorem open_nums {W : World} {base : Nat} {held : Bool} {v : Value} {d : DataW H} {p : List MemPlace}
    (h : DataW.Trod enc Tryd.prog W base (fun _ => true) held 65 v d p) (hv : v.cells.toList = [v]) (hw : ∀ n ∈ d.weights Tryd.prog 65, n ≤ reachBytes) :
    ∃ l : List Int, NmIs W (· < W.heap.size) v l ∧ NmFit l := by
  obtain ⟨fuel, hf⟩ := h
  rw [hv] at hf
  exact open_nums1 hf hw
set_option maxRecDepth 100000 in
/-- Two slices of numbers. -/
theorem open_two {W W0 : World} {r : Reach} {b0 : Nat} {base : Nat} {held : Bool} {v : Value} {d : DataW H} {p : List MemPlace} (hv : Value.okWide Tryd.prog W0 r b0 66 v)
    (h : DataW.Trod enc Tryd.prog W base (fun _ => true) held 66 v d p) (hw : ∀ n ∈ d.weights Tryd.prog 66, n ≤ reachBytes) :
    ∃ x y lx ly, v = .agg #[x, y] ∧ NmIs W (· < W.heap.size) x lx ∧ NmFit lx ∧ NmIs W (· < W.heap.size) y ly ∧ NmFit ly := by
  have ht := Tryd.underlying66
  have hct : Tryd.prog.cellsOf 66 = 2 := by kernel_rfl
  have hce : Tryd.prog.cellsOf 65 = 1 := by kernel_rfl
  simp only [Value.okWide, ht] at hv
  obtain ⟨cs, rfl, hsz, _⟩ := hv
  obtain ⟨fuel, hf⟩ := h
  obtain ⟨xs, m, _, hx, hlen, hn, hel⟩ := DataW.trod_array ht hf
  simp only [Value.cells] at hf hlen hel
  have hl : cs.toList.length = 2 := by rw [hlen, hct]
  obtain ⟨l⟩ := cs
  simp only at hl hel
  match l, hl, xs, hn with
  | [c0, c1], _, [y0, y1], _ =>
    have h0 := hel 0 (by omega)
    have h1 := hel 1 (by omega)
    rw [hce] at h0 h1
    simp only [Nat.zero_mul, Nat.one_mul, List.drop_zero, List.drop_succ_cons, List.take_succ_cons, List.take_zero, List.getElem?_cons_zero, List.getElem?_cons_succ] at h0 h1
    simp only [Prod.mk.injEq] at hx
    rw [hx.1] at hw
    simp only [List.map_cons, List.map_nil, DataW.weights, ht, DataW.weightsAll, List.mem_append] at hw
    obtain ⟨lx, g1, g2⟩ := open_nums1 h0 (fun q hq => hw q (by simp [hq]))
    obtain ⟨ly, g3, g4⟩ := open_nums1 h1 (fun q hq => hw q (by simp [hq]))
    exact ⟨c0, c1, lx, ly, rfl, g1, g2, g3, g4⟩
set_option maxRecDepth 100000 in
/-- A row of rows of changes. -/
theorem open_rows {W : World} {base : Nat} {held : Bool} {a0 : Option Addr} {n0 c0 : Nat} {d : DataW H} {p : List MemPlace}
    (h : DataW.Trod enc Tryd.prog W base (fun _ => true) held 48 (.slice a0 n0 c0) d p) (hw : ∀ n ∈ d.weights Tryd.prog 48, n ≤ reachBytes) :
    ∃ Cs : List (List Chg), RwIs W (· < W.heap.size) (.slice a0 n0 c0) Cs ∧ (∀ C ∈ Cs, CFit C) ∧ Cs.length ≤ 5864062014805 := by
  obtain ⟨fuel, hf⟩ := h
  have hv : (Value.slice a0 n0 c0).cells.toList = [Value.slice a0 n0 c0] := rfl
  have hC : Tryd.prog.cellsOf 37 = 1 := by kernel_rfl
  have hby : Tryd.prog.bytesOf 37 = 24 := by kernel_rfl
  rw [hv] at hf
  rcases Go.Deep.open_slice Tryd.underlying48 hf with ⟨hcs, hx⟩ | ⟨a, len, cap, m, n, D, Pl, hcs, hb, hl, hm, hmm, hx, hi⟩
  · cases hcs
    exact ⟨[], ⟨none, 0, [], rfl, rfl, Nat.le_refl _, Rd.nil, fun k b u h _ => by simp at h⟩, (fun C hC => by cases hC), by simp⟩
  · cases hcs
    simp only [Prod.mk.injEq] at hx
    obtain ⟨rfl, rfl⟩ := hx
    simp only [if_true] at hmm
    subst hmm
    simp only [DataW.weights, Tryd.underlying48, hby] at hw
    have hlen : n0 ≤ 5864062014805 := by
      have := hw _ (List.mem_cons_self ..)
      simp only [List.length_map, List.length_range] at this
      unfold reachBytes at this
      omega
    have hall : ∀ i, ∃ x : List Chg × Value, i < n0 → ChsIs W (· < W.heap.size) x.2 x.1 ∧ CFit x.1 ∧ W.cell? (a.add i) = some x.2 := by
      intro i
      by_cases him : i < n0
      · obtain ⟨cs', hc, ht⟩ := hi i (by omega)
        rw [hC] at hc
        obtain ⟨_, hcl, hat⟩ := World.cells?_some hc
        match cs', hcl with
        | [u], _ =>
          obtain ⟨C, h1, h2⟩ := open_chs1 ht (fun q hq => hw q (by
            refine List.mem_cons_of_mem _ (List.mem_append_left _ ?_)
            exact mem_weightsAll (List.mem_map.2 ⟨i, List.mem_range.2 him, rfl⟩) hq))
          have h0 := hat 0 (by omega)
          rw [Go.Deep.add_add, Nat.mul_one, Nat.add_zero] at h0
          exact ⟨(C, u), fun _ => ⟨h1, h2, h0⟩⟩
      · exact ⟨([], undef), fun h => absurd h him⟩
    obtain ⟨F, hF⟩ := Classical.axiomOfChoice hall
    refine ⟨(List.range n0).map fun i => (F i).1, ⟨some a, m, (List.range n0).map fun i => (F i).2, by simp, by simp, by simpa using hl, fun hn => ⟨a, rfl, ?_, fun j u hu => ?_⟩, fun k b u h1 h2 => ?_⟩, fun C hC' => ?_, by simpa using hlen⟩
    · simp only [List.length_map, List.length_range] at hn
      have := cell_lt (hF 0 hn).2.2
      simpa [Addr.add] using this
    · rw [List.getElem?_map] at hu
      have hkn : j < n0 := by
        rcases Nat.lt_or_ge j n0 with h5 | h5
        · exact h5
        · rw [List.getElem?_eq_none (by simpa using h5)] at hu; cases hu
      rw [List.getElem?_range hkn] at hu
      simp only [Option.map_some, Option.some.injEq] at hu
      subst hu
      exact (hF j hkn).2.2
    · rw [List.getElem?_map] at h1 h2
      have hkn : k < n0 := by
        rcases Nat.lt_or_ge k n0 with h4 | h4
        · exact h4
        · rw [List.getElem?_eq_none (by simpa using h4)] at h1; cases h1
      rw [List.getElem?_range hkn] at h1 h2
      simp only [Option.map_some, Option.some.injEq] at h1 h2
      subst h1; subst h2
      exact (hF k hkn).1
    · obtain ⟨i, hi', rfl⟩ := List.mem_map.1 hC'
      exact (hF i (List.mem_range.1 hi')).2.1
set_option maxRecDepth 100000 in
/-- Truths. -/
theorem open_bools {W : World} {base : Nat} {held : Bool} {a0 : Option Addr} {n0 c0 : Nat} {d : DataW H} {p : List MemPlace}
    (h : DataW.Trod enc Tryd.prog W base (fun _ => true) held 49 (.slice a0 n0 c0) d p) (hw : ∀ n ∈ d.weights Tryd.prog 49, n ≤ reachBytes) :
    ∃ l : List Bool, BsIs W (· < W.heap.size) (.slice a0 n0 c0) l ∧ l.length ≤ 140737488355328 := by
  obtain ⟨fuel, hf⟩ := h
  have hv : (Value.slice a0 n0 c0).cells.toList = [Value.slice a0 n0 c0] := rfl
  have hC : Tryd.prog.cellsOf 4 = 1 := by kernel_rfl
  have hby : Tryd.prog.bytesOf 4 = 1 := by kernel_rfl
  rw [hv] at hf
  rcases Go.Deep.open_slice Tryd.underlying49 hf with ⟨hcs, hx⟩ | ⟨a, len, cap, m, n, D, Pl, hcs, hb, hl, hm, hmm, hx, hi⟩
  · cases hcs
    exact ⟨[], ⟨none, 0, rfl, Nat.le_refl _, Rd.nil⟩, by simp⟩
  · cases hcs
    simp only [Prod.mk.injEq] at hx
    obtain ⟨rfl, rfl⟩ := hx
    simp only [if_true] at hmm
    subst hmm
    simp only [DataW.weights, Tryd.underlying49, hby] at hw
    have hlen : n0 ≤ 140737488355328 := by
      have := hw _ (List.mem_cons_self ..)
      simp only [List.length_map, List.length_range] at this
      unfold reachBytes at this
      omega
    have hall : ∀ i, ∃ x : Bool, i < n0 → W.cell? (a.add i) = some (.bool x) := by
      intro i
      by_cases him : i < n0
      · obtain ⟨cs', hc, ht⟩ := hi i (by omega)
        rw [hC] at hc
        obtain ⟨_, hcl, hat⟩ := World.cells?_some hc
        match cs', hcl with
        | [u], _ =>
          obtain ⟨b, e, _⟩ := DataW.trod_bool Tryd.underlying4 ht
          have h0 := hat 0 (by omega)
          rw [Go.Deep.add_add, Nat.mul_one, Nat.add_zero] at h0
          cases e
          exact ⟨b, fun _ => h0⟩
      · exact ⟨false, fun h => absurd h him⟩
    obtain ⟨F, hF⟩ := Classical.axiomOfChoice hall
    refine ⟨(List.range n0).map F, ⟨some a, m, by simp, by simpa using hl, fun hn => ⟨a, rfl, ?_, fun j u hu => ?_⟩⟩, by simpa using hlen⟩
    · simp only [List.length_map, List.length_range] at hn
      have := cell_lt (hF 0 hn)
      simpa [Addr.add] using this
    · rw [List.map_map, List.getElem?_map] at hu
      have hkn : j < n0 := by
        rcases Nat.lt_or_ge j n0 with h5 | h5
        · exact h5
        · rw [List.getElem?_eq_none (by simpa using h5)] at hu; cases hu
      rw [List.getElem?_range hkn] at hu
      simp only [Option.map_some, Option.some.injEq, Function.comp_apply] at hu
      subst hu
      exact hF j hkn
end
end Go.Proofs.YtlenmkemjaaaoaaDoor
