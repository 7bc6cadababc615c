/- The walk of state.mixed. -/
import Derived.Test.YtamdhaoglapnnaaGreatDoorM01
import Derived.BigRegion
import Derived.BigQuiet
import Derived.Deep.QuietTactic
import Derived.StillTailTactics
import Derived.LoopTactic
namespace Go.Proofs.YtamdhaoglapnnaaGreatDoor
open Go.RowKit

def KeysIn (w : World) : Prop := ∀ i, i < 64 → w.cell? ⟨4, i, none⟩ = some (W (keysL.getD i 0))

/-- The cells of the row of 64 words of which k are laid. -/
def schedCells (ws : List UInt32) : List Value := ws.map W ++ List.replicate (64 - ws.length) (W 0)
def zeros8 : List Value := List.replicate 8 (W 0)
def zeros64 : List Value := List.replicate 64 (W 0)

def M1 (s : St) (ws : List UInt32) (w wr : World) : Prop :=
  Blk wr w.heap.size 300 s.cells ∧ Blk wr (w.heap.size + 1) 300 zeros8 ∧ Blk wr (w.heap.size + 1 + 1) 382 (schedCells ws) ∧
  Below w.heap.size w wr ∧ wr.heap.size = w.heap.size + 3

theorem schedCells_set (ws : List UInt32) (x : UInt32) (h : ws.length < 64) : (schedCells ws).set ws.length (W x) = schedCells (ws ++ [x]) := by
  unfold schedCells
  obtain ⟨m, hm⟩ : ∃ m, 64 - ws.length = m + 1 := ⟨63 - ws.length, by omega⟩
  have hm2 : 64 - (ws.length + 1) = m := by omega
  rw [List.set_append_right _ _ (by simp)]
  simp [hm, hm2, List.replicate_succ]
theorem schedCells_at (ws : List UInt32) (h : ws.length < 64) : (schedCells ws)[ws.length]? = some (W 0) := by
  unfold schedCells
  rw [List.getElem?_append_right (by simp)]
  rw [List.length_map, Nat.sub_self, List.getElem?_replicate, if_pos (by omega)]
theorem schedCells_old (ws : List UInt32) (i : Nat) (h : i < ws.length) : (schedCells ws)[i]? = some (W (ws.getD i 0)) := by
  unfold schedCells
  rw [List.getElem?_append_left (by simpa using h)]
  simp [h]
theorem m1_step {s : St} {ws : List UInt32} {w wr : World} (h : M1 s ws w wr) (x : UInt32) (hl : ws.length < 64) (nq : Nat) :
    M1 s (ws ++ [x]) w ((wr.drewN nq).setCell ⟨w.heap.size + 1 + 1, ws.length, none⟩ (W x)) := by
  obtain ⟨h1, h2, h3, h4, h5⟩ := h
  refine ⟨(h1.drewN nq).far (by simp; omega) _, (h2.drewN nq).far (by simp) _, ?_, ?_, by simpa using h5⟩
  · have := (h3.drewN nq).set_ ws.length (W x)
    rw [schedCells_set ws x hl] at this
    exact this
  · exact (below_drewN h4 nq).setCell (by simp; omega) _

theorem m1_drewN {s : St} {ws : List UInt32} {w wr : World} (h : M1 s ws w wr) (nq : Nat) : M1 s ws w (wr.drewN nq) := by
  obtain ⟨h1, h2, h3, h4, h5⟩ := h
  exact ⟨h1.drewN nq, h2.drewN nq, h3.drewN nq, below_drewN h4 nq, h5⟩
theorem m1_start (s : St) (w : World) : M1 s [] w (((w.alloc (.cells s.cells.toArray 300)).alloc (.cells zeros8.toArray 300)).alloc (.cells zeros64.toArray 382)) := by
  refine ⟨?_, ?_, ?_, ?_, ?_⟩
  · exact ((Blk.new_at rfl).alloc _).alloc _
  · exact (Blk.new_at (by simp)).alloc _
  · exact Blk.new_at (by simp)
  · exact (((Below.refl _ _).alloc (Nat.le_refl _) _).alloc (by simp) _).alloc (by simp; omega) _
  · simp

def M3 (s : St) (ws : List UInt32) (v : St) (w wr : World) : Prop :=
  Blk wr w.heap.size 300 s.cells ∧ Blk wr (w.heap.size + 1) 300 zeros8 ∧ Blk wr (w.heap.size + 1 + 1) 382 (schedCells ws) ∧
  Blk wr (w.heap.size + 3) 300 v.cells ∧ Below w.heap.size w wr ∧ wr.heap.size = w.heap.size + 4
theorem m3_drewN {s : St} {ws : List UInt32} {v : St} {w wr : World} (h : M3 s ws v w wr) (nq : Nat) : M3 s ws v w (wr.drewN nq) := by
  obtain ⟨h1, h2, h3, h4, h5, h6⟩ := h
  exact ⟨h1.drewN nq, h2.drewN nq, h3.drewN nq, h4.drewN nq, below_drewN h5 nq, h6⟩
theorem m3_facts {s : St} {ws : List UInt32} {v : St} {w wr : World} (h : M3 s ws v w wr) :
    wr.cell? ⟨w.heap.size + 3, 0, none⟩ = some (W v.a) ∧ wr.cell? ⟨w.heap.size + 3, 1, none⟩ = some (W v.b) ∧ wr.cell? ⟨w.heap.size + 3, 2, none⟩ = some (W v.c) ∧ wr.cell? ⟨w.heap.size + 3, 3, none⟩ = some (W v.d) ∧
    wr.cell? ⟨w.heap.size + 3, 4, none⟩ = some (W v.e) ∧ wr.cell? ⟨w.heap.size + 3, 5, none⟩ = some (W v.f) ∧ wr.cell? ⟨w.heap.size + 3, 6, none⟩ = some (W v.g) ∧ wr.cell? ⟨w.heap.size + 3, 7, none⟩ = some (W v.h) := by
  obtain ⟨h1, h2, h3, h4, h5, h6⟩ := h
  refine ⟨?_, ?_, ?_, ?_, ?_, ?_, ?_, ?_⟩ <;> rw [h4.cell] <;> rfl
theorem m3_fz {s : St} {ws : List UInt32} {v : St} {w wr : World} (h : M3 s ws v w wr) (i : Nat) : wr.frozen? ⟨w.heap.size + 3, i, none⟩ = false := h.2.2.2.1.frozen i
theorem m3_row {s : St} {ws : List UInt32} {v : St} {w wr : World} (h : M3 s ws v w wr) (k : Nat) (hk : k < ws.length) : wr.cell? ⟨w.heap.size + 1 + 1, k, none⟩ = some (W (ws.getD k 0)) := by
  rw [h.2.2.1.cell]; exact schedCells_old _ _ hk
theorem m1_facts {s : St} {ws : List UInt32} {w wr : World} (h : M1 s ws w wr) :
    wr.cell? ⟨w.heap.size, 0, none⟩ = some (W s.a) ∧ wr.cell? ⟨w.heap.size, 1, none⟩ = some (W s.b) ∧ wr.cell? ⟨w.heap.size, 2, none⟩ = some (W s.c) ∧ wr.cell? ⟨w.heap.size, 3, none⟩ = some (W s.d) ∧
    wr.cell? ⟨w.heap.size, 4, none⟩ = some (W s.e) ∧ wr.cell? ⟨w.heap.size, 5, none⟩ = some (W s.f) ∧ wr.cell? ⟨w.heap.size, 6, none⟩ = some (W s.g) ∧ wr.cell? ⟨w.heap.size, 7, none⟩ = some (W s.h) := by
  refine ⟨?_, ?_, ?_, ?_, ?_, ?_, ?_, ?_⟩ <;> rw [h.1.cell] <;> rfl
theorem m3_start {s : St} {ws : List UInt32} {w wr : World} (h : M1 s ws w wr) : M3 s ws s w (wr.alloc (.cells s.cells.toArray 300)) := by
  obtain ⟨h1, h2, h3, h4, h5⟩ := h
  exact ⟨h1.alloc _, h2.alloc _, h3.alloc _, Blk.new_at h5.symm, h4.alloc (by omega) _, by simp [h5]⟩
theorem m3_copy {s : St} {ws : List UInt32} {v : St} {w wr : World} (h : M3 s ws v w wr) :
    M3 s ws ⟨v.a, v.a, v.b, v.c, v.d, v.e, v.f, v.g⟩ w (wr.setRow (w.heap.size + 3) (splice v.cells 1 [W v.a, W v.b, W v.c, W v.d, W v.e, W v.f, W v.g]).toArray) := by
  obtain ⟨h1, h2, h3, h4, h5, h6⟩ := h
  exact ⟨h1.setRow_far (by omega) _, h2.setRow_far (by omega) _, h3.setRow_far (by omega) _, h4.setRow_same _, below_setRow h5 (by omega) _, by simpa using h6⟩
theorem m3_set {s : St} {ws : List UInt32} {v v' : St} {w wr : World} (h : M3 s ws v w wr) (i : Nat) (u : Value) (hv : v.cells.set i u = v'.cells) : M3 s ws v' w (wr.setCell ⟨w.heap.size + 3, i, none⟩ u) := by
  obtain ⟨h1, h2, h3, h4, h5, h6⟩ := h
  have h4' := h4.set_ i u
  rw [hv] at h4'
  exact ⟨h1.far (by simp) _, h2.far (by simp) _, h3.far (by simp) _, h4', h5.setCell (by simp) _, by simpa using h6⟩
theorem m3_keys {s : St} {ws : List UInt32} {v : St} {w wr : World} (h : M3 s ws v w wr) (hK : KeysIn w) (i : Nat) (hi : i < 64) : wr.cell? ⟨4, i, none⟩ = some (W (keysL.getD i 0)) := by
  have := hK i hi
  rw [h.2.2.2.2.1.cell (p := ⟨_, _, none⟩) (World.block_lt_of_cell? _ _ this)]; exact this
/-- The first k words of the state added. -/
def addN (vl sl : List UInt32) : Nat → List UInt32
  | 0 => vl
  | n + 1 => (addN vl sl n).set n ((addN vl sl n).getD n 0 + sl.getD n 0)
theorem addN_length (vl sl : List UInt32) (n : Nat) : (addN vl sl n).length = vl.length := by
  induction n with
  | zero => rfl
  | succ n ih => simp [addN, ih]
theorem addN_all (v s : St) : addN v.list s.list 8 = (addS v s).list := rfl
def M4 (s : St) (vl : List UInt32) (w wr : World) : Prop :=
  Blk wr w.heap.size 300 s.cells ∧ Blk wr (w.heap.size + 1) 300 zeros8 ∧
  Blk wr (w.heap.size + 3) 300 (vl.map W) ∧ Below w.heap.size w wr
theorem m4_of {s : St} {ws : List UInt32} {v : St} {w wr : World} (h : M3 s ws v w wr) : M4 s v.list w wr := ⟨h.1, h.2.1, h.2.2.2.1, h.2.2.2.2.1⟩
theorem m4_step {s : St} {vl : List UInt32} {w wr : World} (h : M4 s vl w wr) (nq k : Nat) (x : UInt32) : M4 s (vl.set k x) w ((wr.drewN nq).setCell ⟨w.heap.size + 3, k, none⟩ (W x)) := by
  obtain ⟨h1, h2, h3, h4⟩ := h
  have h3' := (h3.drewN nq).set_ k (W x)
  rw [← List.map_set] at h3'
  exact ⟨(h1.drewN nq).far (by simp) _, (h2.drewN nq).far (by simp) _, h3', (below_drewN h4 nq).setCell (by simp) _⟩
theorem map_W_at (vl : List UInt32) (k : Nat) (h : k < vl.length) : (vl.map W)[k]? = some (W (vl.getD k 0)) := by simp [h]
theorem all_W (vl : List UInt32) : ∀ v ∈ vl.map W, v.oneCell' = true := by simp [Value.oneCell']
/-- A contract that leaves the world alone, as a quiet region asks it. -/
theorem quiet_same {P : Program} {f : FuncId} {args : Array Value} {w : World} {v : Value}
    (h : Calls P f args w fun e w' => e = .returned v ∧ w = w') {n : Nat} {w0 : World} (hw : w = w0.drewN n) : Calls P f args w fun e w'' => e = .returned v ∧ ∃ m, w'' = w0.drewN m :=
  h.mono fun _ _ ⟨he, hm⟩ => ⟨he, n, by rw [← hm, hw]⟩
attribute [local go_sem] w_or w_xor w_and w_not w_not_max w_add_mod b2w_mod shl_8 shl_16 shl_24 shr_3 shr_10
set_option maxRecDepth 100000 in
set_option maxHeartbeats 4000000 in
theorem mixed_any (s : St) (bb off cap : Nat) (blk : List UInt8) (w : World) (hbb : bb < w.heap.size)
    (hcells : ∀ i, i < 64 → w.cell? ⟨bb, off + i, none⟩ = some (B (blk.getD i 0))) (hK : KeysIn w) :
    Calls Tryz.prog 216 #[.agg s.cells.toArray, .slice (some ⟨bb, off, none⟩) 64 cap] w fun e w' =>
      e = .returned (.agg (mixS s blk).cells.toArray) ∧ Below w.heap.size w w' := by
  have HC := Lib.hid hcells
  clear hcells
  go_enter Tryz.func216, Tryz.ntmps216
  go_wp2
  go_loopw [17] (fun i wr => ∃ k : Nat, k ≤ 16 ∧ i = .int .i64 k ∧ M1 s (sched blk k) w wr) (fun i _ => 16 - (intOf i).toNat)
  case atStart => exact ⟨0, by omega, rfl, m1_start s w⟩
  case round =>
    obtain ⟨k, hk, rfl, hM⟩ := hrel
    by_cases hlt : k < 16
    · as_aux_lemma =>
        have hc0 : wr.cell? ⟨bb, off + 4 * k, none⟩ = some (B (blk.getD (4 * k) 0)) := by rw [hM.2.2.2.1.cell (p := ⟨bb, _, none⟩) hbb]; exact HC.out _ (by omega)
        have hc1 : wr.cell? ⟨bb, off + (4 * k + 1), none⟩ = some (B (blk.getD (4 * k + 1) 0)) := by rw [hM.2.2.2.1.cell (p := ⟨bb, _, none⟩) hbb]; exact HC.out _ (by omega)
        have hc2 : wr.cell? ⟨bb, off + (4 * k + 2), none⟩ = some (B (blk.getD (4 * k + 2) 0)) := by rw [hM.2.2.2.1.cell (p := ⟨bb, _, none⟩) hbb]; exact HC.out _ (by omega)
        have hc3 : wr.cell? ⟨bb, off + (4 * k + 3), none⟩ = some (B (blk.getD (4 * k + 3) 0)) := by rw [hM.2.2.2.1.cell (p := ⟨bb, _, none⟩) hbb]; exact HC.out _ (by omega)
        go_wp2
        refine quiet_tail 35 (by kernel_rfl) (by kernel_rfl) ?_
        simp only [List.take_succ_cons, List.take_zero, List.drop_succ_cons, List.drop_zero]
        repeat (go_big_quiet_step (fail))
        refine wpQuiet_nil ?_
        rintro _ ⟨nq, rfl⟩
        have hs0 : wr.cell? ⟨w.heap.size + 1 + 1, k, none⟩ = some (W 0) := by
          rw [hM.2.2.1.cell]; have := schedCells_at (sched blk k) (by rw [sched_length]; omega); rwa [sched_length] at this
        have hf0 : wr.frozen? ⟨w.heap.size + 1 + 1, k, none⟩ = false := hM.2.2.1.frozen _
        go_wp2
        go_roundw
        case rel =>
          refine ⟨k + 1, by omega, by go_num, ?_⟩
          rw [sched_lo blk k hlt]
          have := m1_step hM (word16 blk k) (by rw [sched_length]; omega) nq
          rw [sched_length] at this
          exact this
        case measure => simp [intOf]; omega
    · as_aux_lemma =>
        obtain ⟨k1, hk1⟩ : ∃ k1, k1 = k := ⟨_, rfl⟩
        rw [← hk1] at hM hlt hk ⊢
        have hk16 : k1 = 16 := by omega
        rw [hk16] at hM
        have hge : 16 ≤ k1 := by omega
        clear hk16 hk1
        obtain ⟨w1, rfl⟩ : ∃ w1 : World, w1 = wr := ⟨_, rfl⟩
        go_wp2
        go_loopw [7] (fun i wr => ∃ k : Nat, 16 ≤ k ∧ k ≤ 64 ∧ i = .int .i64 k ∧ M1 s (sched blk k) w wr) (fun i _ => 64 - (intOf i).toNat)
        case atStart => exact ⟨16, by omega, by omega, rfl, hM⟩
        case round =>
          clear hM
          obtain ⟨k, hk16, hk, rfl, hM⟩ := hrel
          by_cases hlt : k < 64
          · as_aux_lemma =>
              have hl := Lib.hid (sched_length blk k)
              have hc1 : wr.cell? ⟨w.heap.size + 1 + 1, k - 15, none⟩ = some (W ((sched blk k).getD (k - 15) 0)) := by rw [hM.2.2.1.cell]; exact schedCells_old _ _ (by rw [hl.out]; omega)
              have hc3 : wr.cell? ⟨w.heap.size + 1 + 1, k - 2, none⟩ = some (W ((sched blk k).getD (k - 2) 0)) := by rw [hM.2.2.1.cell]; exact schedCells_old _ _ (by rw [hl.out]; omega)
              go_wp2
              go_quiet (fail)
              replace hM := m1_drewN hM nq
              clear hc1 hc3
              generalize wr.drewN nq = wr at hM ⊢
              have hc0 : wr.cell? ⟨w.heap.size + 1 + 1, k - 16, none⟩ = some (W ((sched blk k).getD (k - 16) 0)) := by rw [hM.2.2.1.cell]; exact schedCells_old _ _ (by rw [hl.out]; omega)
              have hc2 : wr.cell? ⟨w.heap.size + 1 + 1, k - 7, none⟩ = some (W ((sched blk k).getD (k - 7) 0)) := by rw [hM.2.2.1.cell]; exact schedCells_old _ _ (by rw [hl.out]; omega)
              have hs0 : wr.cell? ⟨w.heap.size + 1 + 1, k, none⟩ = some (W 0) := by
                rw [hM.2.2.1.cell]; have := schedCells_at (sched blk k) (by rw [hl.out]; omega); rwa [hl.out] at this
              have hf0 : wr.frozen? ⟨w.heap.size + 1 + 1, k, none⟩ = false := hM.2.2.1.frozen _
              go_wp2
              refine quiet_tail 29 (by kernel_rfl) (by kernel_rfl) ?_
              simp only [List.take_succ_cons, List.take_zero, List.drop_succ_cons, List.drop_zero]
              repeat (go_big_quiet_step ((go_at_call 286; exact quiet_same (right_int _ _ _ (by decide) (by decide)) rfl)))
              refine wpQuiet_nil ?_
              rintro _ ⟨nq, rfl⟩
              go_wp2
              go_roundw
              case rel =>
                refine ⟨k + 1, by omega, by omega, by go_num, ?_⟩
                rw [sched_hi blk k hk16]
                have := m1_step hM (nextW (sched blk k) k) (by rw [hl.out]; omega) nq
                rw [hl.out] at this
                exact this
              case measure => simp [intOf]; omega
          · as_aux_lemma =>
              obtain ⟨k2, hk2⟩ : ∃ k2, k2 = k := ⟨_, rfl⟩
              rw [← hk2] at hM hlt hk ⊢
              have hk64 : k2 = 64 := by omega
              rw [hk64] at hM
              have hge2 : 64 ≤ k2 := by omega
              clear hk64 hk2
              obtain ⟨w2, rfl⟩ : ∃ w2 : World, w2 = wr := ⟨_, rfl⟩
              have hz := Lib.hid hM.2.2.2.2
              obtain ⟨c0, c1, c2, c3, c4, c5, c6, c7⟩ := m1_facts hM
              go_wp2
              rw [hz.out]
              clear c0 c1 c2 c3 c4 c5 c6 c7
              go_loopw [98] (fun i wr => ∃ k : Nat, k ≤ 64 ∧ i = .int .i64 k ∧ M3 s (sched blk 64) (rnds (sched blk 64) s k) w wr) (fun i _ => 64 - (intOf i).toNat)
              case atStart => exact ⟨0, by omega, rfl, m3_start hM⟩
              case round =>
                clear hM
                obtain ⟨k, hk, rfl, hM⟩ := hrel
                by_cases hlt : k < 64
                · as_aux_lemma =>
                    obtain ⟨v, hv⟩ : ∃ v, v = rnds (sched blk 64) s k := ⟨_, rfl⟩
                    rw [← hv] at hM
                    replace hv := Lib.hid hv
                    obtain ⟨c0, c1, c2, c3, c4, c5, c6, c7⟩ := m3_facts hM
                    go_wp2
                    go_quiet (fail)
                    replace hM := m3_drewN hM nq
                    clear c0 c1 c2 c3 c4 c5 c6 c7
                    generalize wr.drewN nq = wr at hM ⊢
                    obtain ⟨c0, c1, c2, c3, c4, c5, c6, c7⟩ := m3_facts hM
                    have hrow := m3_row hM k (by rw [sched_length]; exact hlt)
                    have hkey := m3_keys hM hK k hlt
                    go_wp2
                    go_quiet ((go_at_call 286; exact quiet_same (right_int _ _ _ (by decide) (by decide)) rfl))
                    replace hM := m3_drewN hM nq
                    clear c0 c1 c2 c3 c4 c5 c6 c7 hrow hkey
                    generalize wr.drewN nq = wr at hM ⊢
                    obtain ⟨c0, c1, c2, c3, c4, c5, c6, c7⟩ := m3_facts hM
                    go_wp2
                    go_quiet ((go_at_call 286; exact quiet_same (right_int _ _ _ (by decide) (by decide)) rfl))
                    replace hM := m3_drewN hM nq
                    clear c0 c1 c2 c3 c4 c5 c6 c7
                    generalize wr.drewN nq = wr at hM ⊢
                    go_wp2
                    refine quiet_tail 2 (by kernel_rfl) (by kernel_rfl) ?_
                    simp only [List.take_succ_cons, List.take_zero, List.drop_succ_cons, List.drop_zero]
                    repeat (go_big_quiet_step (fail))
                    refine wpQuiet_nil ?_
                    rintro _ ⟨nq, rfl⟩
                    replace hM := m3_drewN hM nq
                    generalize wr.drewN nq = wr at hM ⊢
                    refine wpList_copy_blk rfl (.tmp 159) (.tmp 160) 384 384 rfl 298 Tryz.underlying384 (by kernel_rfl) (w.heap.size + 3) 1 7 7 ⟨w.heap.size + 3, 0, none⟩ 7 8 rfl rfl v.cells 300 hM.2.2.2.1
                      [W v.a, W v.b, W v.c, W v.d, W v.e, W v.f, W v.g] rfl (blk_src hM.2.2.2.1 0 _ [W v.h] rfl) (Nat.le_refl 8) (by simp [Value.oneCell']) ?_
                    replace hM := m3_copy hM
                    generalize wr.setRow _ _ = wr at hM ⊢
                    obtain ⟨c0, c1, c2, c3, c4, c5, c6, c7⟩ := m3_facts hM
                    have f0 := m3_fz hM 0
                    have f4 := m3_fz hM 4
                    go_wp2
                    go_roundw
                    case rel =>
                      refine ⟨k + 1, by omega, by go_num, ?_⟩
                      have e : rnds (sched blk 64) s (k + 1) = rnd (keysL.getD k 0) ((sched blk 64).getD k 0) v := by rw [hv.out]; rfl
                      rw [e, w_sum5, w_sum5']
                      exact m3_set (v := ⟨v.a, v.a, v.b, v.c, v.d + tOf (keysL.getD k 0) ((sched blk 64).getD k 0) v, v.e, v.f, v.g⟩) (m3_set hM 4 _ rfl) 0 _ rfl
                    case measure => simp [intOf]; omega
                · as_aux_lemma =>
                    obtain ⟨k3, hk3⟩ : ∃ k3, k3 = k := ⟨_, rfl⟩
                    rw [← hk3] at hM hlt hk ⊢
                    have hk64 : k3 = 64 := by omega
                    rw [hk64] at hM
                    have hge3 : 64 ≤ k3 := by omega
                    clear hk64 hk3
                    obtain ⟨w3, rfl⟩ : ∃ w3 : World, w3 = wr := ⟨_, rfl⟩
                    replace hM := m4_of hM
                    obtain ⟨v, hv⟩ : ∃ v, v = rnds (sched blk 64) s 64 := ⟨_, rfl⟩
                    rw [← hv] at hM
                    replace hv := Lib.hid hv
                    go_wp2
                    go_loopw [172] (fun i wr => ∃ k : Nat, k ≤ 8 ∧ i = .int .i64 k ∧ M4 s (addN v.list s.list k) w wr) (fun i _ => 8 - (intOf i).toNat)
                    case atStart => exact ⟨0, by omega, rfl, hM⟩
                    case round =>
                      clear hM
                      obtain ⟨k, hk, rfl, hM⟩ := hrel
                      by_cases hlt : k < 8
                      · as_aux_lemma =>
                          have hc0 : wr.cell? ⟨w.heap.size + 3, k, none⟩ = some (W ((addN v.list s.list k).getD k 0)) := by rw [hM.2.2.1.cell]; exact map_W_at _ _ (by rw [addN_length]; exact hlt)
                          have hc1 : wr.cell? ⟨w.heap.size, k, none⟩ = some (W (s.list.getD k 0)) := by rw [hM.1.cell]; exact map_W_at s.list _ hlt
                          have hf0 := hM.2.2.1.frozen k
                          go_wp2
                          refine quiet_tail 8 (by kernel_rfl) (by kernel_rfl) ?_
                          simp only [List.take_succ_cons, List.take_zero, List.drop_succ_cons, List.drop_zero]
                          repeat (go_big_quiet_step (fail))
                          refine wpQuiet_nil ?_
                          rintro _ ⟨nq, rfl⟩
                          go_wp2
                          go_roundw
                          case rel =>
                            refine ⟨k + 1, by omega, by go_num, ?_⟩
                            exact m4_step hM nq k _
                          case measure => simp [intOf]; omega
                      · as_aux_lemma =>
                          obtain rfl : k = 8 := by omega
                          have hz : addN v.list s.list 8 = (mixS s blk).list := by rw [hv.out]; exact addN_all _ _
                          obtain ⟨mm, hmm⟩ : ∃ mm, mm = mixS s blk := ⟨_, rfl⟩
                          rw [hz, ← hmm] at hM
                          replace hmm := Lib.hid hmm
                          replace hz := Lib.hid hz
                          go_wp2_with (first
                            | (refine wpList_load_blk rfl 300 (.tmp 10) rfl (w.heap.size + 3) rfl 300 (mm.list.map W) hM.2.2.1 (.array 8 298) Tryz.underlying300 rfl (by kernel_rfl) ?_)
                            | (refine wpList_store_blk rfl 300 (.tmp 4) (.tmp 184) rfl (w.heap.size + 1) (mm.list.map W) rfl rfl 300 zeros8 hM.2.1 rfl (by kernel_rfl) (all_W _) ?_))
                          refine ret_blk Tryz.results216 (w.heap.size + 1) 300 (mm.list.map W) (.array 8 298) rfl (hM.2.1.setRow_same _) Tryz.underlying300 rfl (by kernel_rfl) rfl ?_
                          exact ⟨by rw [hmm.out]; rfl, below_setRow hM.2.2.2 (by omega) _⟩
end Go.Proofs.YtamdhaoglapnnaaGreatDoor
