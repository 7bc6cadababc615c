/- From a text to the operations that write it where there was nothing. -/
import Derived.Test.YtamdhaoglapnnaaGreatDoorM19
import Derived.Test.YtamdhaoglapnnaaGreatDoorM06
import Derived.Test.YtamdhaoglapnnaaGreatDoorM15
import Derived.Test.YtamdhaoglapnnaaGreatDoorM05
import Derived.Test.YtamdhaoglapnnaaGreatDoorM07
import Derived.Deep.DeepCutAuto
import Derived.Deep.RegionHeld3
namespace Go.Proofs.YtamdhaoglapnnaaGreatDoor
open Go.RowKit

theorem refCells_one (r : PRef) : ∀ v ∈ refCells r, v.oneCell' = true := by
  intro v hv
  simp only [refCells, List.mem_cons, List.mem_append, List.mem_map, List.not_mem_nil, or_false] at hv
  rcases hv with rfl | ⟨_, _, rfl⟩ | rfl <;> rfl
def mkCells (tb : Nat) (ops : Value) : List Value := [.pointer (some ⟨tb, 0, none⟩), nilS, .int .i64 0, .int .i64 0, ops]
/-- An insertion is put together, and put into a slice of one. -/
theorem build_ins (r : PRef) (c : UInt8) (hr : r.com.length = 32) (w : World) : (Instr.build 283 #[(0, .int .i64 1), (1, .bool false), (2, .agg (refCells r).toArray), (3, B c)]).run Tryz.prog w = .ok (.agg (opCells ⟨1, false, r, c⟩).toArray) w := by
  obtain ⟨o, d, n⟩ := r
  dsimp only at hr
  iterate 32 (rcases d with _ | ⟨_, d⟩; · (exfalso; simp at hr; done))
  obtain rfl : d = [] := by
    simp only [List.length_cons] at hr
    exact List.length_eq_zero_iff.1 (by omega)
  kernel_rfl
theorem bslice_op (x : POp) (hr : x.at_.com.length = 32) (w : World) : (Instr.buildSlice 153 1 #[(0, .agg (opCells x).toArray)]).run Tryz.prog w = .ok (.slice (some ⟨w.heap.size, 0, none⟩) 1 1) (w.alloc (.cells (opCells x).toArray 283)) := by
  obtain ⟨k, l, ⟨o, d, n⟩, c⟩ := x
  dsimp only at hr
  iterate 32 (rcases d with _ | ⟨_, d⟩; · (exfalso; simp at hr; done))
  obtain rfl : d = [] := by
    simp only [List.length_cons] at hr
    exact List.length_eq_zero_iff.1 (by omega)
  kernel_rfl
theorem infoOp : InfoOf Tryz.prog 283 (.agg (opCells ⟨0, false, rootRef, 0⟩).toArray) 37 72 := ⟨by kernel_rfl, rfl, by omega⟩
/-- In the middle of a put: so many operations are there, and the next one stands at the last. -/
structure PutAt (W0 W : World) (tb gb p : Nat) (l : List POp) (m : Nat) : Prop where
  touch : Touch [gb, p] W0 W
  at_ : Blk W p 276 (refCells (atRef m))
  row : ∃ V, Blk W gb 336 (mkCells tb V) ∧ W.ownsRow W0.heap.size 283 37 V m (oCells l)
theorem Touch.under {L : List Nat} {w w1 w2 : World} (h : Touch L w w1) (hb : Below w.heap.size w1 w2) : Touch L w w2 :=
  ⟨hb.os.trans h.os, hb.tape.trans h.tape, hb.output.trans h.output, Nat.le_trans h.size hb.size, fun i hi hn => (hb.block i hi).trans (h.block i hi hn)⟩
theorem Touch.setRow {L : List Nat} {w : World} {g : Nat} (hg : g ∈ L) (c : Array Value) : Touch L w (w.setRow g c) := Touch.grown (grown_row c) (fun b hb => by cases hb; exact hg)
theorem chain_snoc : ∀ (a : Str) (k : Nat) (c : UInt8), chainFrom k (a ++ [c]) = chainFrom k a ++ [insOp (k + a.length) c]
  | [], _, _ => rfl
  | x :: a, k, c => by
    simp only [List.cons_append, chainFrom, chain_snoc a (k + 1) c, List.length_cons]
    rw [show k + 1 + a.length = k + (a.length + 1) by omega]
theorem oCells_app (a b : List POp) : oCells (a ++ b) = oCells a ++ oCells b := List.flatMap_append
theorem chain_next {t : Str} {m : Nat} (h : m < t.length) : oCells (chain (t.take (m + 1))) = oCells (chain (t.take m)) ++ opCells (insOp m t[m]) := by
  rw [take_at1 h]
  unfold chain
  rw [chain_snoc, oCells_app, List.length_take_of_le (by omega), Nat.zero_add]
  simp [oCells]
theorem row_tag {w : World} {base n k g : Nat} {e t : TypeId} {v : Value} {xs cs : List Value} (h : w.ownsRow base e k v n xs) (hB : Blk w g t cs) (hne : t ≠ e) : some g ≠ v.ownBlock := fun he => by
  rcases h.2 with ⟨rfl, _⟩ | ⟨g', cap, cur, rfl, _, hg, _⟩
  · cases he
  · have e' : g = g' := by
      simp [Value.ownBlock] at he
      exact he
    subst e'
    have h1 := hB.symm.trans hg
    injection h1 with h1
    injection h1 with _ h2
    exact hne h2
theorem row_weak {w : World} {base base' : Nat} {e : TypeId} {n k : Nat} {v : Value} {xs : List Value} (hb : base' ≤ base) (h : w.ownsRow base e k v n xs) : w.ownsRow base' e k v n xs := by
  rcases h with ⟨h1, ⟨h2, h3⟩ | ⟨g, cap, cur, h2, h3, h4⟩⟩
  · exact ⟨h1, .inl ⟨h2, h3⟩⟩
  · exact ⟨h1, .inr ⟨g, cap, cur, h2, Nat.le_trans hb h3, h4⟩⟩
theorem at_succ (m : Nat) : atRef (m + 1) = ownRef (m + 1) := if_neg (by omega)
set_option maxRecDepth 100000 in
set_option maxHeartbeats 1000000 in
theorem put_any (t : Str) (ht : t.length ≤ 1000) (tb nb mb ab gb : Nat) (es us : List (Value × Value)) (w : World) (h : TreeAt w tb nb mb ab 0 es us nilS) (hm : Blk w gb 336 (mkCells tb nilS)) :
    Calls Tryz.prog 249 #[.pointer (some ⟨gb, 0, none⟩), .agg #[.int .i64 3, .int .i64 0, strV t]] w fun e w' => e = .returned (.tuple #[]) ∧ ∃ V, Blk w' gb 336 (mkCells tb V) ∧ w'.ownsRow w.heap.size 283 37 V t.length (oCells (chain t)) ∧ Touch [gb] w w' := by
  have hsl : (⟨t.toArray⟩ : ByteArray).size = t.length := strLn0 t
  have hz := Lib.hid (show ∀ v ∈ refCells rootRef, v.oneCell' = true by decide)
  replace h := Lib.hid h
  replace hm := Lib.hid hm
  unfold strV
  go_enter Tryz.func249, Tryz.ntmps249
  go_wp2_with fail
  generalize hW1 : World.alloc w (Obj.cells _ 127) = W1
  have hb1 : Below w.heap.size w W1 := by rw [← hW1]; go_grown
  have hE1 : Blk W1 w.heap.size 127 [.int .i64 3, .int .i64 0, strV t] := by rw [← hW1]; exact Blk.new_at (cs := [.int .i64 3, .int .i64 0, strV t]) rfl
  have hT1 := h.out.below hb1
  have hm1 := hm.out.below hb1 hm.out.lt
  have c0 : W1.cell? ⟨gb, 0, none⟩ = some (.pointer (some ⟨tb, 0, none⟩)) := hm1.cell 0
  have c3 : W1.cell? ⟨gb, 3, none⟩ = some (.int .i64 0) := hm1.cell 3
  have hgap := Lib.hid (fun W2 (hb : Below W1.heap.size W1 W2) => gap_empty tb nb mb ab es us W2 (hT1.below hb))
  have k0 : ∀ o, (W1.alloc o).cell? ⟨gb, 0, none⟩ = some (.pointer (some ⟨tb, 0, none⟩)) := fun o => (hm1.alloc o).cell 0
  have k3 : ∀ o, (W1.alloc o).cell? ⟨gb, 3, none⟩ = some (.int .i64 0) := fun o => (hm1.alloc o).cell 3
  have l0 : ∀ o, (W1.drew.alloc o).cell? ⟨gb, 0, none⟩ = some (.pointer (some ⟨tb, 0, none⟩)) := fun o => (hm1.drew.alloc o).cell 0
  have l3 : ∀ o, (W1.drew.alloc o).cell? ⟨gb, 3, none⟩ = some (.int .i64 0) := fun o => (hm1.drew.alloc o).cell 3
  replace hT1 := Lib.hid hT1
  replace hm1 := Lib.hid hm1
  replace hE1 := Lib.hid hE1
  replace hb1 := Lib.hid hb1
  clear hW1
  go_upto_region 1 with fail
  go_cut [4, 5, 6] (fun a b c wx => ∃ p, a = .pointer (some ⟨p, 0, none⟩) ∧ b = .bool false ∧ c = .bool true ∧ W1.heap.size ≤ p ∧ Blk wx p 276 (refCells rootRef) ∧ Below W1.heap.size W1 wx)
  case first =>
    obtain ⟨rv, hrv⟩ : ∃ rv, rv = refV rootRef := ⟨_, rfl⟩
    obtain ⟨cz, hcz⟩ : ∃ cz, cz = (refCells rootRef).toArray := ⟨_, rfl⟩
    have hz1 : Value.cells rv = cz := by rw [hrv, hcz]; rfl
    have hz2 : cz.size = 34 := by rw [hcz]; rfl
    have hone : ∀ v ∈ cz.toList, v.oneCell' = true := by rw [hcz]; exact hz.out
    have hsA : ∀ v, (storeCells ⟨W1.heap.size, 0, none⟩ cz.toList).run Tryz.prog ((W1.alloc (.cells (refCells rootRef).toArray 276)).alloc v).drew = .ok () ((W1.alloc (.cells (refCells rootRef).toArray 276)).alloc v).drew := fun v => by
      have hB := (((Blk.new_at (w := W1) (g := W1.heap.size) (t := 276) (cs := refCells rootRef) rfl).alloc v).drew)
      have h1 := run_storeCells_from (P := Tryz.prog) W1.heap.size 276 cz.toList 0 _ _ hB (by rw [hcz]; simp) hone
      rw [hcz] at h1 ⊢
      simpa [setRow_idem hB] using h1
    have hsB : ∀ v, (storeCells ⟨W1.heap.size + 1, 0, none⟩ cz.toList).run Tryz.prog ((W1.alloc v).alloc (.cells (refCells rootRef).toArray 276)).drew = .ok () ((W1.alloc v).alloc (.cells (refCells rootRef).toArray 276)).drew := fun v => by
      have hB := (Blk.new_at (w := W1.alloc v) (g := W1.heap.size + 1) (t := 276) (cs := refCells rootRef) (by simp)).drew
      have h1 := run_storeCells_from (P := Tryz.prog) (W1.heap.size + 1) 276 cz.toList 0 _ _ hB (by rw [hcz]; simp) hone
      rw [hcz] at h1 ⊢
      simpa [setRow_idem hB] using h1
    simp only [Value.cells] at hz1
    rw [← hrv, ← hcz] at hgap
    rw [root_lit] at hsA hsB
    replace hcz := Lib.hid hcz
    replace hrv := Lib.hid hrv
    go_region_held3 (fun w' => w'.cell? ⟨gb, 0, none⟩ = some (.pointer (some ⟨tb, 0, none⟩)) ∧ w'.cell? ⟨gb, 3, none⟩ = some (.int .i64 0)) (first | exact ⟨k0 _, k3 _⟩ | exact ⟨l0 _, l3 _⟩ | go_keep)
      (first | (go_at_call 302; (with_reducible refine (hgap.out _ (by go_grown)).mono ?_); rintro e w7 ⟨rfl, rfl⟩))
    all_goals (go_wp2_with fail; go_meet; rw [← root_lit, hcz.out]; first
      | exact ⟨W1.heap.size, rfl, rfl, rfl, Nat.le_refl _, (((Blk.new_at (cs := refCells rootRef) rfl).alloc _).drew), by go_grown⟩
      | exact ⟨W1.heap.size + 1, rfl, rfl, rfl, by omega, ((Blk.new_at (cs := refCells rootRef) (by simp)).drew), by go_grown⟩)
  case rest =>
    obtain ⟨p, rfl, rfl, rfl, hp, hBp, hbc⟩ := hcut
    have hE2 : wc.cell? ⟨w.heap.size, 2, none⟩ = some (.string ⟨t.toArray⟩) := (hE1.out.below hbc hE1.out.lt).cell 2
    have hm2 := hm1.out.below hbc hm1.out.lt
    clear k0 k3 l0 l3 c0 c3 hgap
    have hpe := Lib.hid hp
    replace hBp := Lib.hid hBp
    replace hbc := Lib.hid hbc
    replace hm2 := Lib.hid hm2
    go_wp2_with fail
    go_loopw [5, 24] (fun l i wr => ∃ m : Nat, m ≤ t.length ∧ l = .bool false ∧ i = .int .i64 m ∧ PutAt wc wr tb gb p (chain (t.take m)) m) (fun _ i _ => t.length - (intOf i).toNat)
    case atStart => exact ⟨0, Nat.zero_le _, rfl, rfl, ⟨Touch.refl _ _, hBp.out, _, hm2.out, rfl, .inl ⟨rfl, rfl⟩⟩⟩
    case round =>
      obtain ⟨m, hm, rfl, rfl, hst⟩ := hrel
      obtain ⟨V, hV, hrow⟩ := hst.row
      obtain ⟨FA, fc, rfl, _, _⟩ := own_form hrow
      by_cases hlt : m < t.length
      · have i1 : (0 : Int) ≤ (m : Int) := by omega
        have i2 : (m : Int) < (t.length : Int) := by omega
        have cV : wr.cell? ⟨gb, 4, none⟩ = some (.slice FA m fc) := hV.cell 4
        have hEr : Blk wr w.heap.size 127 [.int .i64 3, .int .i64 0, strV t] := by
          have hE := (hE1.out.below hbc.out hE1.out.lt).touch hst.touch (by
            have h1 := hm1.out.ne_ hE1.out (by decide)
            have h2 := hBp.out.ne_ (hE1.out.below hbc.out hE1.out.lt) (by decide)
            simp
            omega)
          exact hE
        have cE : wr.cell? ⟨w.heap.size, 2, none⟩ = some (.string ⟨t.toArray⟩) := hEr.cell 2
        go_upto_region 5 with fail
        obtain ⟨PS, hPS⟩ : ∃ PS : World → Prop, ∀ x, PS x ↔ x.cell? ⟨gb, 4, none⟩ = some (.slice FA m fc) ∧ x.cell? ⟨w.heap.size, 2, none⟩ = some (.string ⟨t.toArray⟩) ∧ Blk x p 276 (refCells (atRef m)) := ⟨_, fun _ => Iff.rfl⟩
        have s1 : ∀ s : Cls PS, s.1.cell? ⟨gb, 4, none⟩ = some (.slice FA m fc) := fun s => ((hPS _).1 s.2).1
        have s2 : ∀ s : Cls PS, s.1.cell? ⟨w.heap.size, 2, none⟩ = some (.string ⟨t.toArray⟩) := fun s => ((hPS _).1 s.2).2.1
        have s3 : Hid (∀ w', (∃ s : Cls PS, w' = s.1) → Blk w' p 276 (refCells (atRef m))) := Lib.hid (by rintro _ ⟨s, rfl⟩; exact ((hPS _).1 s.2).2.2)
        have s4 : PS wr.drew := (hPS _).2 ⟨cV, cE, hst.at_.drew⟩
        haveI : Nonempty (Cls PS) := ⟨⟨_, s4⟩⟩
        replace hPS := Lib.hid hPS
        refine region_mix (fun w' => ∃ s : Cls PS, w' = s.1) [0, 1, 2, 3, 4, 5, 6, 7, 8, 9, 10, 11] [12, 13] 14 [15, 16] (by kernel_rfl) (by kernel_rfl) (fun _ d _ _ _ h => by cases d <;> exact h) ⟨⟨_, s4⟩, rfl⟩ ?_
        simp only [pickOps, List.map_cons, List.map_nil, nthOp_zero, nthOp_succ]
        repeat (first | go_big_quiet_step (fail) | (refine wpQuiet_load_part 276 (.tmp 4) rfl rfl p 0 rfl 276 (refCells (atRef m)) (refCells (atRef m)) [] s3.out (by simp) _ Tryz.underlying276 rfl (refSz (atRef_com m)) ?_; go_frame))
        refine wpQuiet_run (.build 283 #[(0, .const (.int .i64 1)), (1, .tmp 32), (2, .tmp 33), (3, .tmp 37)]) rfl rfl (.agg (opCells (insOp m t[m])).toArray) (fun w' _ => exec_build4 283 0 1 2 3 (.const (.int .i64 1)) (.tmp 32) (.tmp 33) (.tmp 37) rfl (.int .i64 1) (.bool false) (.agg (refCells (atRef m)).toArray) (B t[m]) (.agg (opCells (insOp m t[m])).toArray) rfl rfl rfl rfl (build_ins (atRef m) t[m] (atRef_com m) w')) ?_
        go_frame
        repeat (first | go_big_quiet_step (fail))
        refine wpQuiet_nil ?_
        intro K hK
        refine step_run _ _ rfl _ (exec_bslice1 153 (.tmp 38) rfl _ _ rfl (bslice_op (insOp m t[m]) (atRef_com m) _)) ?_
        have hB1 : Below wr.heap.size wr (wr.drew.alloc (.cells (opCells (insOp m t[m])).toArray 283)) := by go_grown
        refine hK _ _ ⟨⟨_, (hPS.out _).2 ⟨(hB1.cell (p := ⟨gb, 4, none⟩) hV.lt).trans cV, (hB1.cell (p := ⟨w.heap.size, 2, none⟩) (World.block_lt_of_cell? _ _ cE)).trans cE, hst.at_.below hB1 hst.at_.lt⟩⟩, rfl⟩ ?_
        intro K' hK'
        refine step_append_rd _ rfl (.tmp 31) (.tmp 39) 153 rfl wc.heap.size 283 _ 37 72 Tryz.underlying153 infoOp (.slice FA m fc) m (oCells (chain (t.take m))) rfl (hrow.drew.alloc _) (fun _ => True) (some ⟨wr.heap.size, 0, none⟩) 1 1 (opCells (insOp m t[m])) rfl (by rw [opCells_len (insOp_fit _ (by omega))]) (Rd.of_blk (cs := opCells (insOp m t[m])) (r := []) (Blk.new_at rfl) (by simp) trivial) (opCells_one _) (by unfold maxLen; omega) (by omega) (by have := hst.touch.size; simp; omega) ?_
        intro v4 W4 hrow4 hg4 hv4
        obtain ⟨GA, gc, rfl, _, _⟩ := own_form hrow4
        have nrow : ∀ g t' cs, Blk wr g t' cs → t' ≠ 283 → some g ≠ (Value.slice FA m fc).ownBlock := fun g t' cs hB hn e => row_tag hrow hB hn e
        have hg3 : Blk W4 gb 336 (mkCells tb (.slice FA m fc)) := (hV.below hB1 hV.lt).grown hg4 (nrow _ _ _ hV (by decide))
        have hE4 : Blk W4 w.heap.size 127 [.int .i64 3, .int .i64 0, strV t] := (hEr.below hB1 hEr.lt).grown hg4 (nrow _ _ _ hEr (by decide))
        have hp4 : Blk W4 p 276 (refCells (atRef m)) := (hst.at_.below hB1 hst.at_.lt).grown hg4 (nrow _ _ _ hst.at_ (by decide))
        refine hK' _ _ ⟨⟨_, (hPS.out _).2 ⟨hg3.cell 4, hE4.cell 2, hp4⟩⟩, rfl⟩ ?_
        have f4 := hg3.frozen 4
        have g4 : ∀ u, (W4.setCell ⟨gb, 4, none⟩ u).cell? ⟨gb, 4, none⟩ = some u := fun u => (hg3.set_ 4 u).cell 4
        have hp5 : ∀ u, Blk (W4.setCell ⟨gb, 4, none⟩ u) p 276 (refCells (atRef m)) := fun u => hp4.far (hp4.ne_ hg3 (by decide)) u
        change wpList _ _ _ _ _ _
        go_frame
        have c4 : W4.cell? ⟨gb, 4, none⟩ = some (.slice FA m fc) := hg3.cell 4
        go_wp2_with (first
          | (refine wpList_store_blk rfl 276 (.tmp 4) (.tmp 48) rfl p (refCells (ownRef (m + 1))) rfl rfl 276 (refCells (atRef m)) (hp5 _) (by simp [refCells, atRef_com, ownRef, zeros]) (refSz rfl) (refCells_one _) ?_)
          | fail)
        have hs3 := hst.touch.size
        have hW4 : Below wc.heap.size wr W4 := (hB1.mono hs3).trans (own_below (hrow.drew.alloc _) hg4 (by simp; omega))
        have t4 : Touch [gb, p] wc W4 := hst.touch.under hW4
        have hne : gb ≠ p := hg3.ne_ hp4 (by decide)
        have t6 : Touch [gb, p] W4 ((W4.setCell ⟨gb, 4, none⟩ (.slice GA (m + 1) gc)).setRow p (refCells (ownRef (m + 1))).toArray) := (Touch.setCell _ (by simp)).trans (Touch.setRow (by simp) _) (fun i hi => .inl hi)
        refine ⟨⟨m + 1, by omega, rfl, by go_num, t4.trans t6 (fun i hi => .inl hi), ?_, .slice GA (m + 1) gc, (hg3.set_ 4 _).setRow_far hne _, ?_⟩, ?_⟩
        · rw [at_succ]
          exact (hp5 _).setRow_same _
        · rw [chain_next hlt]
          refine own_touch hrow4 t6 (fun b hb hm => ?_)
          have r1 := row_tag hrow4 hg3 (by decide)
          have r2 := row_tag hrow4 hp4 (by decide)
          rcases List.mem_cons.1 hm with rfl | hm
          · exact r1 hb.symm
          · obtain rfl : b = p := by simpa using hm
            exact r2 hb.symm
        · simp [intOf]
          omega
      · have hmt : m = t.length := by omega
        subst hmt
        go_wp2_with fail
        go_returns
        have hs1 := hb1.out.size
        have hs2 := hbc.out.size
        rw [List.take_length] at hrow
        refine ⟨rfl, .slice FA t.length fc, hV, row_weak (by omega) hrow, ?_⟩
        refine ((Touch.ofBelow (hb1.out.trans (hbc.out.mono hs1))).trans hst.touch (fun i hi => ?_))
        rcases List.mem_cons.1 hi with rfl | hi
        · exact .inl (by simp)
        · obtain rfl : i = p := by simpa using hi
          exact .inr (by omega)
end Go.Proofs.YtamdhaoglapnnaaGreatDoor
