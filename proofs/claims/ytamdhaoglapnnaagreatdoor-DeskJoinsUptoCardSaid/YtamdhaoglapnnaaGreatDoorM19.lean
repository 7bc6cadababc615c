/- The tree of a text: the first gap, a copy of an empty one, what is ranged over. -/
import Derived.Test.YtamdhaoglapnnaaGreatDoorM17
import Derived.Lib.Builder
import Derived.Deep.RegionWith
namespace Go.Proofs.YtamdhaoglapnnaaGreatDoor
open Go.RowKit

/-- To store what is there already turns nothing. -/
theorem setRow_idem {w : World} {g : Nat} {t : TypeId} {cs : List Value} (h : Blk w g t cs) : w.setRow g cs.toArray = w := by
  have e : (w.heap.modify g fun | .cells _ elem frozen => .cells cs.toArray elem frozen | o => o) = w.heap := by
    apply Array.ext_getElem?
    intro k
    rw [Array.getElem?_modify]
    by_cases hk : g = k
    · subst hk
      have h1 : w.heap[g]? = some (.cells cs.toArray t (0, 0)) := h
      rw [if_pos rfl, h1]
      rfl
    · rw [if_neg hk]
  show ({ w with heap := w.heap.modify g fun | .cells _ elem frozen => .cells cs.toArray elem frozen | o => o } : World) = w
  rw [e]
theorem refSz0 : (Tryz.prog.info? 276).map (·.size) = some 34 := by kernel_rfl
set_option maxRecDepth 100000 in
set_option maxHeartbeats 1000000 in
theorem gap_empty (tb nb mb ab : Nat) (es us : List (Value × Value)) (w : World) (h : TreeAt w tb nb mb ab 0 es us nilS) :
    Calls Tryz.prog 302 #[.pointer (some ⟨tb, 0, none⟩), .int .i64 0] w fun e w' => e = .returned (.tuple #[refV rootRef, .bool false, .bool true]) ∧ w' = w.alloc (.cells (refCells rootRef).toArray 276) := by
  have hmade := Lib.hid (fun W => fmade_any tb nb mb ab 0 es us nilS W)
  have hz := Lib.hid (show ∀ v ∈ refCells rootRef, v.oneCell' = true by decide)
  replace h := Lib.hid h
  go_enter Tryz.func302, Tryz.ntmps302
  go_wp2_with fail
  generalize hW1 : World.alloc w (Obj.cells _ 276) = W1
  have hW1' := Lib.hid hW1
  have hb1 : Below w.heap.size w W1 := by rw [← hW1]; exact (Below.refl _ _).alloc (Nat.le_refl _) _
  have hB1 : Blk W1 w.heap.size 276 (refCells rootRef) := by rw [← hW1]; exact Blk.new_at (cs := refCells rootRef) rfl
  have hT := h.out.below hb1
  have c0 := hT.tree.cell 0
  have c3 := hT.tree.cell 3
  have d4 : W1.cell? ⟨nb, 37, none⟩ = some nilS := hT.root.cell 37
  simp only [List.getElem?_cons_zero, List.getElem?_cons_succ] at c0 c3
  have hroot := Lib.hid hT.root
  replace hmade := Lib.hid (hmade.out W1 hT)
  replace hb1 := Lib.hid hb1
  replace hB1 := Lib.hid hB1
  clear hW1 hT h
  refine hmade.out.mono ?_
  rintro e W2 ⟨rfl, rfl⟩
  go_wp2_with (first
    | (refine wpList_load_part rfl 276 (.tmp 45) rfl nb 0 rfl 354 (nodeCells rootRef 0 true nilS nilS) (refCells rootRef) [B 0, .bool true, nilS, nilS] hroot.out rfl _ Tryz.underlying276 rfl refSz0 ?_)
    | (refine wpList_store_blk rfl 276 (.tmp 4) (.tmp 46) rfl w.heap.size (refCells rootRef) rfl rfl 276 (refCells rootRef) hB1.out rfl refSz0 hz.out ?_)
    | fail)
  exact ret_blk3 rfl w.heap.size 276 (refCells rootRef) _ rfl (hB1.out.setRow_same _) Tryz.underlying276 rfl refSz0 rfl _ _ rfl rfl ⟨rfl, (setRow_idem hB1.out).trans hW1'.out.symm⟩
/-- 'range' and 'next' over a map without entries. -/
theorem run_range0 {t k e : TypeId} (ht : Tryz.prog.underlying t = some (.map k e)) {w : World} {b : Nat} (h : MapV w b []) : ∃ c, (Instr.range t (.map (some b))).run Tryz.prog w = .ok (.pointer (some ⟨w.heap.size, 0, none⟩)) (w.alloc (.mapIter (some b) c #[] c)) ∧
    ∀ ty, (Instr.next (.pointer (some ⟨w.heap.size, 0, none⟩)) false ty).run Tryz.prog (w.alloc (.mapIter (some b) c #[] c)) = .ok (.tuple #[.bool false]) (w.alloc (.mapIter (some b) c #[] c)) := by
  obtain ⟨xs, c, hb, hx⟩ := h
  have hxs : xs = #[] := by simpa using hx
  subst hxs
  refine ⟨c, run_range_map w t k e b #[] c ht hb, fun ty => ?_⟩
  rcases run_next_map (P := Tryz.prog) w ty b c c #[] #[] c hb (by simp) (Nat.le_refl _) with ⟨_, h⟩ | ⟨x, hx, _⟩
  · exact h
  · simp [leftOf] at hx
theorem root_lit : (refCells rootRef).toArray = #[.bool false, .int .u8 0, .int .u8 0, .int .u8 0, .int .u8 0, .int .u8 0, .int .u8 0, .int .u8 0, .int .u8 0, .int .u8 0, .int .u8 0, .int .u8 0, .int .u8 0, .int .u8 0, .int .u8 0, .int .u8 0, .int .u8 0, .int .u8 0, .int .u8 0, .int .u8 0, .int .u8 0, .int .u8 0, .int .u8 0, .int .u8 0, .int .u8 0, .int .u8 0, .int .u8 0, .int .u8 0, .int .u8 0, .int .u8 0, .int .u8 0, .int .u8 0, .int .u8 0, .int .i64 0] := rfl
theorem nodeSz : (Tryz.prog.info? 354).map (·.size) = some 38 := by kernel_rfl
theorem infoNode : ∃ j, Tryz.prog.info? 354 = some j := by
  have h := nodeSz
  cases hq : Tryz.prog.info? 354 with
  | none => simp [hq] at h
  | some j => exact ⟨j, rfl⟩
theorem build_root (w : World) : (Instr.build 354 #[(0, .agg (refCells rootRef).toArray), (1, B 0), (2, .bool true)]).run Tryz.prog w = .ok (.agg (nodeCells rootRef 0 true nilS nilS).toArray) w := by kernel_rfl
set_option maxRecDepth 100000 in
set_option maxHeartbeats 1000000 in
theorem copy1_root (tb nb mb ab cc t1 t3 : Nat) (es : List (Value × Value)) (w : World) (h : TreeAt w tb nb mb ab 0 es [] nilS) (h1 : Blk w t1 192 [.pointer (some ⟨tb, 0, none⟩)]) :
    Calls Tryz.prog 301 #[.pointer (some ⟨nb, 0, none⟩), .pointer (some ⟨cc, 0, none⟩), .pointer (some ⟨t1, 0, none⟩), .pointer (some ⟨t3, 0, none⟩)] w fun e w' => e = .returned (.pointer (some ⟨w.heap.size, 0, none⟩)) ∧ Below w.heap.size w w' := by
  have c34 : w.cell? ⟨nb, 34, none⟩ = some (B 0) := h.root.cell 34
  have c35 : w.cell? ⟨nb, 35, none⟩ = some (.bool true) := h.root.cell 35
  have hBn : ∀ w', (∃ n, w' = w.drewN n) → Blk w' nb 354 (nodeCells rootRef 0 true nilS nilS) := by rintro _ ⟨n, rfl⟩; exact h.root.drewN n
  replace hBn := Lib.hid hBn
  obtain ⟨jn, hjn⟩ := infoNode
  have hne := fun w => Lib.run_neq_ptr_same (P := Tryz.prog) (w := w) (tp := 352) (te := 354) ⟨nb, 0, none⟩ Tryz.underlying352 hjn
  clear hjn
  replace h := Lib.hid h
  replace h1 := Lib.hid h1
  go_enter Tryz.func301, Tryz.ntmps301
  go_wp2_with fail
  refine quiet_tail 12 (by kernel_rfl) (by kernel_rfl) ?_
  simp only [List.take_succ_cons, List.take_zero, List.drop_succ_cons, List.drop_zero]
  repeat (first | go_big_quiet_step (fail) | (refine wpQuiet_load_part 276 (.tmp 13) rfl rfl nb 0 rfl 354 (nodeCells rootRef 0 true nilS nilS) (refCells rootRef) [B 0, .bool true, nilS, nilS] (fun w hw => hBn.out w hw) rfl _ Tryz.underlying276 rfl refSz0 ?_; go_frame))
  refine wpQuiet_nil ?_
  rintro _ ⟨nq, rfl⟩
  clear c34 c35
  rw [root_lit]
  have k36 : ∀ o, ((w.drewN nq).alloc o).cell? ⟨nb, 36, none⟩ = some nilS := fun o => ((h.out.root.drewN nq).alloc o).cell 36
  have k37 : ∀ o, ((w.drewN nq).alloc o).cell? ⟨nb, 37, none⟩ = some nilS := fun o => ((h.out.root.drewN nq).alloc o).cell 37
  have k1 : ∀ o, ((w.drewN nq).alloc o).cell? ⟨t1, 0, none⟩ = some (.pointer (some ⟨tb, 0, none⟩)) := fun o => ((h1.out.drewN nq).alloc o).cell 0
  have k2 : ∀ o, ((w.drewN nq).alloc o).cell? ⟨tb, 0, none⟩ = some (.pointer (some ⟨nb, 0, none⟩)) := fun o => ((h.out.tree.drewN nq).alloc o).cell 0
  go_wp2_with fail
  refine wp_loop_rounds 1 ?_
  rw [rounds_succ]
  go_wp2_with fail
  refine wp_loop_rounds 1 ?_
  rw [rounds_succ]
  go_wp2_with fail
  go_returns
  exact ⟨rfl, by have h9 := Touch.drewN (w := w) (L := []) nq; exact (h9.below (Nat.le_refl _) (fun _ hi => by cases hi)).alloc (by simp) _⟩
set_option maxRecDepth 100000 in
set_option maxHeartbeats 1000000 in
theorem fcopy_empty (tb nb mb ab : Nat) (es : List (Value × Value)) (w : World) (h : TreeAt w tb nb mb ab 0 es [] nilS) :
    Calls Tryz.prog 246 #[.pointer (some ⟨tb, 0, none⟩)] w fun e w' => ∃ cb, e = .returned (.pointer (some ⟨cb, 0, none⟩)) ∧ Below w.heap.size w w' := by
  have hmade := Lib.hid (fun W => fmade_any tb nb mb ab 0 es [] nilS W)
  replace h := Lib.hid h
  go_enter Tryz.func246, Tryz.ntmps246
  go_wp2_with fail
  generalize hW1 : World.alloc w (Obj.cells _ 192) = W1
  have hb1 : Below w.heap.size w W1 := by rw [← hW1]; exact (Below.refl _ _).alloc (Nat.le_refl _) _
  have hB1 : Blk W1 w.heap.size 192 [.pointer (some ⟨tb, 0, none⟩)] := by rw [← hW1]; exact Blk.new_at (cs := [.pointer (some ⟨tb, 0, none⟩)]) rfl
  have hT := h.out.below hb1
  clear hW1 h
  refine (hmade.out W1 hT).mono ?_
  rintro e W2 ⟨rfl, rfl⟩
  have c1 : W2.cell? ⟨w.heap.size, 0, none⟩ = some (.pointer (some ⟨tb, 0, none⟩)) := hB1.cell 0
  replace hT := Lib.hid hT
  replace hB1 := Lib.hid hB1
  replace hb1 := Lib.hid hb1
  go_wp2_with fail
  refine (fnew_any _).mono ?_
  rintro e W3 ⟨tc, nc, mc, ac, rfl, hC, e1, e2, e3, e4, hb3⟩
  replace hC := Lib.hid hC
  replace hb3 := Lib.hid hb3
  clear c1
  go_wp2_with fail
  generalize hW4 : World.alloc W3 (Obj.cells _ 192) = W4
  have hb4 : Below W3.heap.size W3 W4 := by rw [← hW4]; exact (Below.refl _ _).alloc (Nat.le_refl _) _
  have hB4 : Blk W4 W3.heap.size 192 [.pointer (some ⟨tc, 0, none⟩)] := by rw [← hW4]; exact Blk.new_at (cs := [.pointer (some ⟨tc, 0, none⟩)]) rfl
  have hb24 : Below W2.heap.size W2 W4 := hb3.out.trans (hb4.mono hb3.out.size)
  have hT4 := hT.out.below hb24
  have hC4 := hC.out.below hb4
  have hB14 := hB1.out.below hb24 hB1.out.lt
  have cT3 : W4.cell? ⟨W3.heap.size, 0, none⟩ = some (.pointer (some ⟨tc, 0, none⟩)) := hB4.cell 0
  have cT1 : W4.cell? ⟨w.heap.size, 0, none⟩ = some (.pointer (some ⟨tb, 0, none⟩)) := hB14.cell 0
  have cS : W4.cell? ⟨tb, 3, none⟩ = some (.int .i64 0) := hT4.tree.cell 3
  have cC : W4.cell? ⟨tc, 3, none⟩ = some (.int .i64 0) := hC4.tree.cell 3
  have fC := hC4.tree.frozen 3
  obtain ⟨W5, hW5⟩ : ∃ W5, W5 = (W4.setCell ⟨tc, 3, none⟩ (.int .i64 0)).drew := ⟨_, rfl⟩
  have hb5 : Below W2.heap.size W2 W5 := by rw [hW5]; exact (hb24.setCell (by show W2.heap.size ≤ tc; omega) _).drew
  have hT5 := hT.out.below hb5
  have hB15 := hB1.out.below hb5 hB1.out.lt
  have hB45 : Blk W5 W3.heap.size 192 [.pointer (some ⟨tc, 0, none⟩)] := by
    rw [hW5]
    exact (hB4.far (by
      have := hC.out.tree.lt
      show W3.heap.size ≠ tc
      omega) _).drew
  have hC5 : Blk W5 tc 357 [.pointer (some ⟨nc, 0, none⟩), .map (some mc), .map (some ac), .int .i64 0] := by
    rw [hW5]
    exact (hC4.tree.set_ 3 (.int .i64 0)).drew
  replace hT4 := Lib.hid hT4
  clear hB14 hC4 hb24
  replace hT5 := Lib.hid hT5
  replace hb5 := Lib.hid hb5
  replace hB15 := Lib.hid hB15
  replace hB45 := Lib.hid hB45
  replace hC5 := Lib.hid hC5
  replace hW5 := Lib.hid hW5
  replace hb4 := Lib.hid hb4
  replace hB4 := Lib.hid hB4
  clear hW4
  go_region
  rw [← hW5.out]
  have d1 : W5.cell? ⟨w.heap.size, 0, none⟩ = some (.pointer (some ⟨tb, 0, none⟩)) := hB15.out.cell 0
  have d2 : W5.cell? ⟨tb, 2, none⟩ = some (.map (some ab)) := hT5.out.tree.cell 2
  obtain ⟨ck, hrg, hnx⟩ := run_range0 Tryz.underlying99 hT5.out.added
  clear cT3 cT1 cS cC fC
  go_wp2_with fail
  refine wp_loop_rounds 1 ?_
  rw [rounds_succ]
  go_wp2_with fail
  generalize hW6 : World.alloc (World.alloc W5 _) (Obj.cells _ 399) = W6
  have hb6 : Below W5.heap.size W5 W6 := by rw [← hW6]; exact ((Below.refl _ _).alloc (Nat.le_refl _) _).alloc (by simp) _
  have hcp : Hid (Calls Tryz.prog 301 #[.pointer (some ⟨nb, 0, none⟩), .pointer (some ⟨W5.heap.size + 1, 0, none⟩), .pointer (some ⟨w.heap.size, 0, none⟩), .pointer (some ⟨W3.heap.size, 0, none⟩)] W6.drew fun e w' => e = .returned (.pointer (some ⟨W6.heap.size, 0, none⟩)) ∧ Below W6.heap.size W6.drew w') := Lib.hid (copy1_root tb nb mb ab _ _ _ es W6.drew ((hT5.out.below hb6).below (Below.refl _ _).drew) ((hB15.out.below hb6 hB15.out.lt).drew))
  have k6 : W6.cell? ⟨W5.heap.size + 1, 0, none⟩ = some (.func (.func 301) #[] #[.pointer (some ⟨W5.heap.size + 1, 0, none⟩), .pointer (some ⟨w.heap.size, 0, none⟩), .pointer (some ⟨W3.heap.size, 0, none⟩)]) := by
    rw [← hW6]
    exact (Blk.new_at (cs := [.func (.func 301) #[] #[.pointer (some ⟨W5.heap.size + 1, 0, none⟩), .pointer (some ⟨w.heap.size, 0, none⟩), .pointer (some ⟨W3.heap.size, 0, none⟩)]]) (by simp)).cell 0
  have k7 : W6.cell? ⟨W3.heap.size, 0, none⟩ = some (.pointer (some ⟨tc, 0, none⟩)) := (hB45.out.below hb6 hB45.out.lt).cell 0
  have k8 : W6.cell? ⟨w.heap.size, 0, none⟩ = some (.pointer (some ⟨tb, 0, none⟩)) := (hB15.out.below hb6 hB15.out.lt).cell 0
  have k9 : W6.cell? ⟨tb, 0, none⟩ = some (.pointer (some ⟨nb, 0, none⟩)) := (hT5.out.below hb6).tree.cell 0
  have hfac := Lib.hid (fun w7 (hb7 : Below W6.heap.size W6.drew w7) => (show w7.cell? ⟨W3.heap.size, 0, none⟩ = some (.pointer (some ⟨tc, 0, none⟩)) ∧ w7.cell? ⟨tc, 0, none⟩ = some (.pointer (some ⟨nc, 0, none⟩)) ∧ w7.frozen? ⟨tc, 0, none⟩ = false ∧ (∀ u, (w7.setCell ⟨tc, 0, none⟩ u).cell? ⟨W3.heap.size, 0, none⟩ = some (.pointer (some ⟨tc, 0, none⟩))) ∧ Below w.heap.size w w7 by
    have q1 : Blk W6 W3.heap.size 192 [.pointer (some ⟨tc, 0, none⟩)] := hB45.out.below hb6 hB45.out.lt
    have q2 := hC5.out.below hb6 hC5.out.lt
    have q3 := q2.drew.below hb7 q2.lt
    refine ⟨(q1.drew.below hb7 q1.lt).cell 0, q3.cell 0, q3.frozen 0, fun u => ((q1.drew.below hb7 q1.lt).far (p := ⟨tc, 0, none⟩) (by have := hC.out.tree.lt; show W3.heap.size ≠ tc; omega) u).cell 0, ?_⟩
    exact (((hb1.out.trans (hb5.out.mono hb1.out.size)).trans (hb6.mono (by have := hb1.out.size; have := hb5.out.size; omega))).drew).trans (hb7.mono (by have := hb1.out.size; have := hb5.out.size; have := hb6.size; omega))))
  clear hW6 hrg hnx d1 d2 hb6
  go_region_with (go_at_call 301; refine hcp.out.mono ?_; rintro e w7 ⟨rfl, hb7⟩; obtain ⟨g1, g2, g3, g5, g4⟩ := hfac.out w7 hb7; replace g4 := Lib.hid g4)
  all_goals (go_wp2_with fail; go_returns; exact ⟨_, rfl, g4.out.setCell (by show w.heap.size ≤ tc; have := hb1.out.size; omega) _⟩)
end Go.Proofs.YtamdhaoglapnnaaGreatDoor
