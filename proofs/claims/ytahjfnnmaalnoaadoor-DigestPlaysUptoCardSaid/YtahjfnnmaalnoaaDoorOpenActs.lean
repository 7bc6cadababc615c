/- What the walk of DigestPlays is told of its argument: a slice of acts; and what the bound on its bulk gives. -/
import Derived.Test.YtahjfnnmaalnoaaDoorWalkPlays
import Derived.Test.YtahjfnnmaalnoaaDoorOpenRows
import Derived.Test.YtahjfnnmaalnoaaDoorOpenB
import Derived.Deep.Slices
import Derived.Deep.Fields
namespace Go.Proofs.YtahjfnnmaalnoaaDoor
open Go.ChangeShapes Go.WideShapes Go.ChangeAt Go.RowKit
section
variable {H : Type} {enc : TypeId × Value → H} {P : Program}
/-- A slice of bytes, out of its cell. -/
theorem bytes_of_trod {t e : TypeId} (ht : P.underlying t = some (.slice e)) (he : P.underlying e = some (.int .u8)) (hce : P.cellsOf e = 1) {W : World} {base fuel : Nat} {held : Bool} {v : Value} {y : DataW H × List MemPlace}
    (h : DataW.trod enc P W base (fun _ => true) held fuel t [v] = some y) :
    ∃ (l : List UInt8) (A : Option Addr) (cap : Nat), v = .slice A l.length cap ∧ Rd W (· < W.heap.size) A (l.map B) ∧ l.length ≤ cap ∧ l.length ≤ Rows.uptoBulk y.1 := by
  rcases open_ints ht he hce h with ⟨hcs, hx⟩ | ⟨a, len, cap, zs, hcs, _, hl, hm, hz, hx, hcell, hwz⟩
  · cases hcs
    exact ⟨[], none, 0, rfl, fun hn => absurd hn (by simp), Nat.le_refl _, by simp⟩
  · cases hcs
    subst hx
    simp only [if_true] at hz
    obtain ⟨l, rfl⟩ := nums_of_wf zs hwz
    simp only [List.length_map] at hz
    have hlen : (l.take len).length = len := by simp; omega
    refine ⟨l.take len, some a, cap, by rw [hlen], fun hn => ⟨a, rfl, ?_, fun j u hu => ?_⟩, by rw [hlen]; exact hl, ?_⟩
    · simp only [List.length_map, hlen] at hn
      have := cell_blk_lt (hcell 0 (by simp only [List.length_map]; omega))
      simpa [Addr.add] using this
    · have hj : j < len := by
        have := (List.getElem?_eq_some_iff.1 hu).1
        simp only [List.length_map, hlen] at this
        exact this
      rw [hcell j (by simp only [List.length_map]; omega), ← hu, List.getElem?_map, List.getElem?_take_of_lt hj]
      have h9 : j < l.length := by omega
      simp [h9, B]
    · rw [hlen]
      have h1 := length_le_bulk (H := H) (lits .u8 ((l.map bv).take len))
      have h0 : (lits (H := H) .u8 ((l.map bv).take len)).length = len := by
        simp only [lits, List.length_map, List.length_take]; omega
      rw [h0] at h1
      simp only [Rows.uptoBulk]
      omega
theorem bulk_mem {l : List (DataW H)} {d : DataW H} (h : d ∈ l) : Rows.uptoBulk d ≤ Rows.uptoBulkAll l := by
  induction l with
  | nil => cases h
  | cons x r ih =>
    simp only [Rows.uptoBulkAll]
    rcases List.mem_cons.1 h with rfl | h
    · omega
    · have := ih h; omega
/-- One act, out of its three cells. -/
theorem open_act {e : TypeId} {f0 f1 f2 : Field} (he : P.underlying e = some (.struct #[f0, f1, f2])) (hone : Deep.oneCellFields P #[f0, f1, f2] = true) (hC : P.cellsOf e = 3)
    (t0 : P.underlying f0.type = some (.int .i64)) (t1 : P.underlying f1.type = some .bool) {q : TypeId} (t2 : P.underlying f2.type = some (.slice q)) (hq : P.underlying q = some (.int .u8)) (cq : P.cellsOf q = 1)
    {W : World} {base fuel : Nat} {held : Bool} {cs : List Value} {y : DataW H × List MemPlace} (h : DataW.trod enc P W base (fun _ => true) held fuel e cs = some y) :
    ∃ (k : Int) (b : Bool) (l : List UInt8) (A : Option Addr) (cap : Nat), cs = [.int .i64 k, .bool b, .slice A l.length cap] ∧ Rd W (· < W.heap.size) A (l.map B) ∧ l.length ≤ cap ∧ l.length ≤ Rows.uptoBulk y.1 := by
  obtain ⟨xs, n, _, hx, hcl, hlen, hg⟩ := DataW.trod_struct he h
  rw [hC] at hcl
  obtain ⟨o0, k0⟩ := Deep.hone_of hone 0 f0 rfl
  obtain ⟨o1, k1⟩ := Deep.hone_of hone 1 f1 rfl
  obtain ⟨o2, k2⟩ := Deep.hone_of hone 2 f2 rfl
  match cs, hcl, xs, hlen with
  | [c0, c1, c2], _, [y0, y1, y2], _ =>
    have g0 : DataW.trod enc P W base (fun _ => true) held n f0.type [c0] = some y0 := by simpa [o0, k0] using hg 0 f0 rfl
    have g1 : DataW.trod enc P W base (fun _ => true) held n f1.type [c1] = some y1 := by simpa [o1, k1] using hg 1 f1 rfl
    have g2 : DataW.trod enc P W base (fun _ => true) held n f2.type [c2] = some y2 := by simpa [o2, k2] using hg 2 f2 rfl
    obtain ⟨k, hk, _⟩ := DataW.trod_int t0 g0
    obtain ⟨b, hb, _⟩ := DataW.trod_bool t1 g1
    obtain ⟨l, A, cap, hv, hR, hc, hbk⟩ := bytes_of_trod t2 hq cq g2
    cases hk
    cases hb
    subst hv
    refine ⟨k, b, l, A, cap, rfl, hR, hc, ?_⟩
    rw [hx]
    simp only [List.map_cons, List.map_nil, Rows.uptoBulk, Rows.uptoBulkAll]
    omega
end
theorem totA_le_bulk {H : Type} (acts : ActL) (D : Nat → DataW H) : ∀ n, n ≤ acts.length → (∀ k, k < n → (acts.getD k act0).2.2.length ≤ Rows.uptoBulk (D k)) → totA acts n ≤ Rows.uptoBulkAll ((List.range n).map D)
  | 0, _, _ => by simp [totA]
  | n + 1, hn, h => by
    have ih := totA_le_bulk acts D n (by omega) (fun k hk => h k (by omega))
    have h1 := h n (by omega)
    have happ : ∀ a b : List (DataW H), Rows.uptoBulkAll (a ++ b) = Rows.uptoBulkAll a + Rows.uptoBulkAll b := by
      intro a b
      induction a with
      | nil => simp [Rows.uptoBulkAll]
      | cons x r ih => simp only [List.cons_append, Rows.uptoBulkAll, ih]; omega
    rw [List.range_succ, List.map_append, happ]
    simp only [totA, List.map_cons, List.map_nil, Rows.uptoBulkAll]
    omega
/-- A slice of acts. -/
theorem open_acts {H : Type} {enc : TypeId × Value → H} {W : World} {base : Nat} {held : Bool} {a0 : Option Addr} {n0 c0 : Nat} {d : DataW H} {p : List MemPlace}
    (h : DataW.Trod enc Tryd.prog W base (fun _ => true) held 38 (.slice a0 n0 c0) d p) :
    ∃ acts : ActL, n0 = acts.length ∧ ActsIn W a0 acts ∧ totA acts acts.length ≤ Rows.uptoBulk d ∧ acts.length ≤ Rows.uptoBulk d := by
  obtain ⟨fuel, hf⟩ := h
  have hv : (Value.slice a0 n0 c0).cells.toList = [Value.slice a0 n0 c0] := rfl
  have hC : Tryd.prog.cellsOf 41 = 3 := by kernel_rfl
  rw [hv] at hf
  rcases Go.Deep.open_slice Tryd.underlying38 hf with ⟨hcs, hx⟩ | ⟨a, len, cap, m, n, D, Pl, hcs, hb, hl, hm, hmm, hx, hi⟩
  · cases hcs
    exact ⟨[], rfl, fun k hk => absurd hk (by simp), by simp [totA], by simp⟩
  · cases hcs
    simp only [Prod.mk.injEq] at hx
    obtain ⟨rfl, rfl⟩ := hx
    simp only [if_true] at hmm
    subst hmm
    have hall : ∀ i, ∃ (t : Int × Bool × List UInt8) (A : Option Addr) (c : Nat), i < m → W.cell? (a.add (i * 3)) = some (.int .i64 t.1) ∧ W.cell? (a.add (i * 3 + 1)) = some (.bool t.2.1) ∧ W.cell? (a.add (i * 3 + 2)) = some (.slice A t.2.2.length c) ∧
        Rd W (· < W.heap.size) A (t.2.2.map B) ∧ t.2.2.length ≤ c ∧ t.2.2.length ≤ Rows.uptoBulk (D i) := by
      intro i
      by_cases him : i < m
      · obtain ⟨cs', hc, ht⟩ := hi i him
        rw [hC] at hc
        obtain ⟨k, b, l, A, c, rfl, hR, hcap, hbk⟩ := open_act Tryd.underlying41 (by kernel_rfl) hC Tryd.underlying3 Tryd.underlying4 Tryd.underlying22 Tryd.underlying5 (by kernel_rfl) ht
        obtain ⟨_, _, hat⟩ := World.cells?_some hc
        refine ⟨(k, b, l), A, c, fun _ => ⟨?_, ?_, ?_, hR, hcap, hbk⟩⟩
        · have := hat 0 (by omega); rw [Go.Deep.add_add] at this; simpa using this
        · have := hat 1 (by omega); rw [Go.Deep.add_add] at this; simpa using this
        · have := hat 2 (by omega); rw [Go.Deep.add_add] at this; simpa using this
      · exact ⟨act0, none, 0, fun h => absurd h him⟩
    obtain ⟨T, hT⟩ := Classical.axiomOfChoice hall
    have hget : ∀ k, k < n0 → ((List.range n0).map T).getD k act0 = T k := fun k hk => by simp [hk]
    refine ⟨(List.range n0).map T, by simp, ?_, ?_, ?_⟩
    · intro k hk
      simp only [List.length_map, List.length_range] at hk
      rw [hget k hk]
      obtain ⟨A, c, hTk⟩ := hT k
      obtain ⟨h1, h2, h3, h4, h5, _⟩ := hTk (by omega)
      obtain ⟨bb, off, spot⟩ := a
      obtain ⟨A0, c0, hT0⟩ := hT 0
      have hspot : spot = none := by simpa [Addr.add] using World.cell?_spot (hT0 (by omega)).1
      subst hspot
      rw [addr_add] at h1 h2 h3
      exact ⟨bb, off, A, c, rfl, cell_blk_lt h1, h1, by rw [Nat.add_assoc]; exact h2, by rw [Nat.add_assoc]; exact h3, h5, h4⟩
    · have h1 := totA_le_bulk ((List.range n0).map T) D n0 (by simp) (fun k hk => by
        rw [hget k hk]
        obtain ⟨A, c, hTk⟩ := hT k
        exact (hTk (by omega)).2.2.2.2.2)
      simp only [List.length_map, List.length_range, Rows.uptoBulk]
      omega
    · have h1 := length_le_bulk (H := H) ((List.range n0).map D)
      simp only [List.length_map, List.length_range] at h1
      simp only [List.length_map, List.length_range, Rows.uptoBulk]
      omega
end Go.Proofs.YtahjfnnmaalnoaaDoor
