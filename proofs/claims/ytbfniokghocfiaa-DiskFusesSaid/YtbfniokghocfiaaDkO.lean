/- What the laws' walks are told of their arguments: a slice of acts, a slice of numbers; what the bound on their bytes gives. -/
import Derived.Test.YtbfniokghocfiaaDkSy
import Derived.Test.YtbfniokghocfiaaPost
import Derived.Test.YtbfniokghocfiaaRows
import Derived.ProofKit
import Derived.SizedLaws
import Derived.Deep.Slices
import Derived.Deep.Fields
namespace Go.Proofs.Ytbfniokghocfiaa
open Go.ChangeShapes Go.WideShapes Go.ChangeAt Go.RowKit

theorem own : ownKnob Try.prog.godebug = none := by kernel_rfl
theorem laidOut : laidOutB Try.prog = true := by kernel_rfl
theorem bool_res : Try.prog.underlying 4 = some .bool := Try.underlying4
section
variable {H : Type} {enc : TypeId × Value → H}
theorem mem_weightsAll {P : Program} {e : TypeId} {n : Nat} {d : DataW H} : ∀ {l : List (DataW H)}, d ∈ l → n ∈ d.weights P e → n ∈ DataW.weightsAll P e l
  | x :: r, hd, hn => by
    simp only [DataW.weightsAll, List.mem_append]
    rcases List.mem_cons.1 hd with rfl | hd
    · exact .inl hn
    · exact .inr (mem_weightsAll hd hn)
theorem wf_i64 {k : Int} (h : (Lit.int .i64 k).wf = true) : -9223372036854775808 ≤ k ∧ k ≤ 9223372036854775807 := by
  simpa [Lit.wf, IntKind.min, IntKind.max, IntKind.signed, IntKind.bits] using h
theorem cell_lt {w : World} {a : Addr} {v : Value} (h : w.cell? a = some v) : a.block < w.heap.size := World.block_lt_of_cell? _ _ h
theorem slice_form {t e : TypeId} (ht : Try.prog.underlying t = some (.slice e)) {W : World} {base fuel : Nat} {held : Bool} {v : Value} {y : DataW H × List MemPlace} (h : DataW.trod enc Try.prog W base (fun _ => true) held fuel t [v] = some y) : ∃ A n c, v = .slice A n c := by
  rcases Go.Deep.open_slice ht h with ⟨hcs, _⟩ | ⟨a, len, cap, m, n, D, Pl, hcs, _⟩
  · cases hcs; exact ⟨_, _, _, rfl⟩
  · cases hcs; exact ⟨_, _, _, rfl⟩
/-- One act, out of its seven cells. -/
theorem open_act {W : World} {base fuel : Nat} {held : Bool} {cs : List Value} {y : DataW H × List MemPlace} (h : DataW.trod enc Try.prog W base (fun _ => true) held fuel 37 cs = some y)
    (hw : ∀ n ∈ y.1.weights Try.prog 37, n ≤ reachBytes) : ∃ x : ActD, cs = x.cells ∧ x.Ok := by
  have hu := Try.underlying37
  have hC : Try.prog.cellsOf 37 = 7 := by kernel_rfl
  obtain ⟨xs, n, _, hx, hcl, hlen, hg⟩ := DataW.trod_struct hu h
  rw [hC] at hcl
  have k3 : Try.prog.cellsOf 3 = 1 := by kernel_rfl
  have k4 : Try.prog.cellsOf 4 = 1 := by kernel_rfl
  have k9 : Try.prog.cellsOf 9 = 1 := by kernel_rfl
  have k23 : Try.prog.cellsOf 23 = 1 := by kernel_rfl
  match cs, hcl, xs, hlen with
  | [c0, c1, c2, c3, c4, c5, c6], _, [y0, y1, y2, y3, y4, y5, y6], _ =>
    have g0 : DataW.trod enc Try.prog W base (fun _ => true) held n 3 [c0] = some y0 := by have := hg 0 _ rfl; simpa [k3] using this
    have g1 : DataW.trod enc Try.prog W base (fun _ => true) held n 4 [c1] = some y1 := by have := hg 1 _ rfl; simpa [k4] using this
    have g2 : DataW.trod enc Try.prog W base (fun _ => true) held n 9 [c2] = some y2 := by have := hg 2 _ rfl; simpa [k9] using this
    have g3 : DataW.trod enc Try.prog W base (fun _ => true) held n 9 [c3] = some y3 := by have := hg 3 _ rfl; simpa [k9] using this
    have g4 : DataW.trod enc Try.prog W base (fun _ => true) held n 9 [c4] = some y4 := by have := hg 4 _ rfl; simpa [k9] using this
    have g5 : DataW.trod enc Try.prog W base (fun _ => true) held n 3 [c5] = some y5 := by have := hg 5 _ rfl; simpa [k3] using this
    have g6 : DataW.trod enc Try.prog W base (fun _ => true) held n 23 [c6] = some y6 := by have := hg 6 _ rfl; simpa [k23] using this
    obtain ⟨k, e0, _, w0⟩ := DataW.trod_int Try.underlying3 g0
    obtain ⟨b, e1, _⟩ := DataW.trod_bool Try.underlying4 g1
    obtain ⟨s2, e2, z2, _⟩ := DataW.trod_string Try.underlying9 g2
    obtain ⟨s3, e3, z3, _⟩ := DataW.trod_string Try.underlying9 g3
    obtain ⟨s4, e4, z4, _⟩ := DataW.trod_string Try.underlying9 g4
    obtain ⟨q, e5, _⟩ := DataW.trod_int Try.underlying3 g5
    obtain ⟨LA, ll, lc, e6⟩ := slice_form Try.underlying23 g6
    cases e0
    cases e1
    cases e2
    cases e3
    cases e4
    cases e5
    subst e6
    subst z2
    subst z3
    subst z4
    obtain ⟨b0, b1⟩ := wf_i64 w0
    rw [hx] at hw
    simp only [List.map_cons, List.map_nil, DataW.weights, hu, DataW.weightsEach, List.mem_append, List.mem_singleton] at hw
    have l2 : s2.data.toList.length ≤ reachBytes := hw _ (by simp)
    have l3 : s3.data.toList.length ≤ reachBytes := hw _ (by simp)
    have l4 : s4.data.toList.length ≤ reachBytes := hw _ (by simp)
    unfold reachBytes at l2 l3 l4
    refine ⟨⟨k, b, s2.data.toList, s3.data.toList, s4.data.toList, q, LA, ll, lc⟩, by simp [ActD.cells, strV], ⟨by show s2.data.toList.length ≤ _; omega, by show s3.data.toList.length ≤ _; omega, by show s4.data.toList.length ≤ _; omega, b0, b1⟩⟩
/-- A slice of acts. -/
theorem open_acts {W : World} {base : Nat} {held : Bool} {a0 : Option Addr} {n0 c0 : Nat} {d : DataW H} {p : List MemPlace}
    (h : DataW.Trod enc Try.prog W base (fun _ => true) held 22 (.slice a0 n0 c0) d p) (hw : ∀ n ∈ d.weights Try.prog 22, n ≤ reachBytes) :
    ∃ acts : List ActD, n0 = acts.length ∧ AIn W a0 acts := by
  obtain ⟨fuel, hf⟩ := h
  have hv : (Value.slice a0 n0 c0).cells.toList = [Value.slice a0 n0 c0] := rfl
  have hC : Try.prog.cellsOf 37 = 7 := by kernel_rfl
  have hby : Try.prog.bytesOf 37 = 96 := by kernel_rfl
  rw [hv] at hf
  rcases Go.Deep.open_slice Try.underlying22 hf with ⟨hcs, hx⟩ | ⟨a, len, cap, m, n, D, Pl, hcs, hb, hl, hm, hmm, hx, hi⟩
  · cases hcs
    exact ⟨[], rfl, fun hk => absurd hk (by simp), by simp, by simp⟩
  · cases hcs
    simp only [Prod.mk.injEq] at hx
    obtain ⟨rfl, rfl⟩ := hx
    simp only [if_true] at hmm
    subst hmm
    simp only [DataW.weights, Try.underlying22, hby] at hw
    have hlen : n0 ≤ 1466015503680 := by
      have := hw _ (List.mem_cons_self ..)
      simp only [List.length_map, List.length_range] at this
      unfold reachBytes at this
      omega
    have hall : ∀ i, ∃ x : ActD, i < n0 → x.Ok ∧ ∀ j v, x.cells[j]? = some v → W.cell? (a.add (i * 7 + j)) = some v := by
      intro i
      by_cases him : i < n0
      · obtain ⟨cs', hc, ht⟩ := hi i (by omega)
        rw [hC] at hc
        obtain ⟨x, rfl, hok⟩ := open_act ht (fun q hq => hw q (by
          refine List.mem_cons_of_mem _ (List.mem_append_left _ ?_)
          exact mem_weightsAll (List.mem_map.2 ⟨i, List.mem_range.2 him, rfl⟩) hq))
        obtain ⟨_, _, hat⟩ := World.cells?_some hc
        refine ⟨x, fun _ => ⟨hok, fun j v hv => ?_⟩⟩
        have hj : j < 7 := by have := (List.getElem?_eq_some_iff.1 hv).1; simpa [ActD.cells] using this
        have := hat j hj
        rw [Go.Deep.add_add] at this
        rw [this, hv]
      · exact ⟨⟨0, false, [], [], [], 0, none, 0, 0⟩, fun h => absurd h him⟩
    obtain ⟨T, hT⟩ := Classical.axiomOfChoice hall
    refine ⟨(List.range n0).map T, by simp, ?_, ?_, by simpa using hlen⟩
    · intro h0
      simp only [List.length_map, List.length_range] at h0
      obtain ⟨bb, off, spot⟩ := a
      have hc0 := (hT 0 h0).2 0 (.int .i64 (T 0).kind) rfl
      have hspot : spot = none := by simpa [Addr.add] using World.cell?_spot hc0
      subst hspot
      refine ⟨bb, off, rfl, fun k x hk j v hv => ?_⟩
      rw [List.getElem?_map] at hk
      have hkn : k < n0 := by
        rcases Nat.lt_or_ge k n0 with h1 | h1
        · exact h1
        · rw [List.getElem?_eq_none (by simpa using h1)] at hk; cases hk
      rw [List.getElem?_range hkn] at hk
      simp only [Option.map_some, Option.some.injEq] at hk
      subst hk
      have := (hT k hkn).2 j v hv
      rw [addr_add] at this
      rw [Nat.add_assoc]
      exact this
    · intro x hx
      obtain ⟨i, hi', rfl⟩ := List.mem_map.1 hx
      exact (hT i (List.mem_range.1 hi')).1
/-- A slice of choices. -/
theorem open_choices {W : World} {base : Nat} {held : Bool} {a0 : Option Addr} {n0 c0 : Nat} {d : DataW H} {p : List MemPlace}
    (h : DataW.Trod enc Try.prog W base (fun _ => true) held 23 (.slice a0 n0 c0) d p) (hw : ∀ n ∈ d.weights Try.prog 23, n ≤ reachBytes) :
    ∃ l : List Int, n0 = l.length ∧ ChIn W a0 l := by
  obtain ⟨fuel, hf⟩ := h
  have hv : (Value.slice a0 n0 c0).cells.toList = [Value.slice a0 n0 c0] := rfl
  have hby : Try.prog.bytesOf 3 = 8 := by kernel_rfl
  rw [hv] at hf
  rcases open_ints Try.underlying23 Try.underlying3 (by kernel_rfl) hf with ⟨hcs, hx⟩ | ⟨a, len, cap, zs, hcs, _, hl, hm, hz, hx, hcell, hwz⟩
  · cases hcs
    exact ⟨[], rfl, fun hn => absurd hn (by simp), by simp, by simp⟩
  · cases hcs
    simp only [Prod.mk.injEq] at hx
    obtain ⟨rfl, rfl⟩ := hx
    simp only [if_true] at hz
    have hlen : (zs.take n0).length = n0 := by simp; omega
    simp only [DataW.weights, Try.underlying23, hby] at hw
    have h8 := hw _ (List.mem_cons_self ..)
    simp only [lits, List.length_map, List.length_take, List.length_drop] at h8
    unfold reachBytes at h8
    refine ⟨zs.take n0, hlen.symm, ?_, ?_, by rw [hlen]; omega⟩
    · intro hn
      simp only [List.length_map, hlen] at hn
      refine ⟨a, rfl, ?_, fun j u hu => ?_⟩
      · have := cell_lt (hcell 0 (by omega))
        simpa [Addr.add] using this
      · have hj : j < n0 := by
          have := (List.getElem?_eq_some_iff.1 hu).1
          simp only [List.length_map, hlen] at this
          exact this
        rw [hcell j (by omega), ← hu, List.getElem?_map, List.getElem?_take_of_lt hj]
        have h9 : j < zs.length := by omega
        simp [h9, intV]
    · intro x hx
      exact (wf_i64 (hwz x (List.mem_of_mem_take hx))).2
end
end Go.Proofs.Ytbfniokghocfiaa
