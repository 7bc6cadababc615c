/- A range over a function that hands nothing over. -/
import Derived.Test.YtamdhaoglapnnaaGreatDoorM10
import Derived.Test.YtamdhaoglapnnaaGreatDoorM20
import Derived.Test.YtamdhaoglapnnaaGreatDoorM18
section
namespace Go.Proofs.YtamdhaoglapnnaaGreatDoor
open Go.RowKit Go.Shelf

set_option maxHeartbeats 4000000 in
theorem wp_range_none {g : Operand} {ps : Array Tmp} {assign body : Code} {Q : Exit → Act → World → Prop} {a : Act} {w : World} (f : FuncId) (caps : Array Value)
    (hg : a.eval g = .func (.func f) #[] caps) (hcf : ∀ args W, (callFunc f args).run Tryz.prog W = .ok (.enter f args) W)
    (hcall : ∀ l W1, Below w.heap.size w W1 → Calls Tryz.prog f (#[.func (.yield l) #[] #[]] ++ caps) W1 fun e W2 => e = .returned (.tuple #[]) ∧ Below W1.heap.size W1 W2)
    (hdone : ∀ (D : Nat) (W : World), w.heap.size ≤ D → Below w.heap.size w W → W.heap[D]? = some (.deferred (some [])) → Q .normal { a with defers := { target := .collected D, args := #[] } :: a.defers } W) :
    (Code.rangeFunc g ps assign body).wp Tryz.prog Q a w := by
  refine (wpIn_wide (n := 0)).1 (wpIn_rangeFunc ?_)
  intro fn hfn
  rw [show Fence.wide.round = none from rfl]
  obtain ⟨rec, hrec⟩ : ∃ rec : LoopState → Option Code → Loop, rec = fun st pe => { state := st, pending := pe, fn, tmps := a.tmps, params := ps, assign, body, defers := w.heap.size } := ⟨_, rfl⟩
  obtain ⟨W1, hW1⟩ : ∃ W1, (w.alloc (.deferred (some []))).alloc (.loop (rec .ready none)) = W1 := ⟨_, rfl⟩
  have hL1 : W1.heap[w.heap.size + 1]? = some (.loop (rec .ready none)) := by
    rw [← hW1]; have := World.alloc_heap_new (w.alloc (.deferred (some []))) (.loop (rec .ready none)); rwa [World.size_alloc] at this
  have hK1 : W1.heap[w.heap.size]? = some (.deferred (some [])) := by
    rw [← hW1]; exact (Below.heap_alloc _ _ _ (by simp)).trans (World.alloc_heap_new w _)
  have hb1 : Below w.heap.size w W1 := by rw [← hW1]; exact ((Below.refl _ _).alloc (Nat.le_refl _) _).alloc (by simp) _
  refine ⟨w.heap.size + 1, [{ target := .collected w.heap.size, args := #[] }], W1, { target := .fn (.func f) caps, args := #[.func (.yield (w.heap.size + 1)) #[] #[]] }, W1, f,
    #[.func (.yield (w.heap.size + 1)) #[] #[]] ++ caps, W1, ?_, ?_, ?_, ?_, fun h => (by cases h), ?_⟩
  · rw [← hW1, hrec]; exact run_enterLoop_outer _ _ _ _ _
  · simp only [resolve, hg]
    simp [go_sem]
  · exact fun _ _ => trivial
  · simp only [invoke]
    exact hcf _ _
  · refine (callsIn_wide.2 (hcall _ W1 hb1)).mono ?_
    rintro e W2 ⟨rfl, hb2⟩
    have b1 := (Array.getElem?_eq_some_iff.1 hL1).1
    have b2 := (Array.getElem?_eq_some_iff.1 hK1).1
    have hl : W2.heap[w.heap.size + 1]? = some (.loop (rec .ready none)) := (hb2.block _ b1).trans hL1
    have hk : W2.heap[w.heap.size]? = some (.deferred (some [])) := (hb2.block _ b2).trans hK1
    have hb : Below w.heap.size w W2 := hb1.trans (hb2.mono hb1.size)
    refine ⟨none, W2.putObj (w.heap.size + 1) (.loop { rec .ready none with state := .exhausted }), ?_, ?_⟩
    · have := run_endLoop (P := Tryz.prog) hl (by rw [hrec]; simp)
      rw [hrec] at this ⊢
      exact this
    · exact hdone _ _ (Nat.le_refl _) (hb.trans ⟨rfl, rfl, rfl, by simp [World.putObj], fun k hk' => World.putObj_heap_other (by omega)⟩) ((World.putObj_heap_other (by omega)).trans hk)
end Go.Proofs.YtamdhaoglapnnaaGreatDoor
end
section
/- The operations that turn an empty tree into a text. -/
namespace Go.Proofs.YtamdhaoglapnnaaGreatDoor
open Go.RowKit

theorem all_empty (tb : Nat) (w : World) : Calls Tryz.prog 194 #[.pointer (some ⟨tb, 0, none⟩)] w fun e w' => e = .returned (.func (.func 268) #[] #[.pointer (some ⟨w.heap.size, 0, none⟩)]) ∧ w' = w.alloc (.cells #[.pointer (some ⟨tb, 0, none⟩)] 192) := by
  go_enter Tryz.func194, Tryz.ntmps194
  go_wp2
  go_ret
  exact ⟨rfl, rfl⟩
set_option maxRecDepth 100000 in
set_option maxHeartbeats 1000000 in
theorem all1_empty (tb nb mb ab bx : Nat) (es us : List (Value × Value)) (y : Value) (w : World) (h : TreeAt w tb nb mb ab 0 es us nilS) (hb : Blk w bx 192 [.pointer (some ⟨tb, 0, none⟩)]) :
    Calls Tryz.prog 268 #[y, .pointer (some ⟨bx, 0, none⟩)] w fun e w' => e = .returned (.tuple #[]) ∧ Below w.heap.size w w' := by
  have hcall := Lib.hid (list_chain zeros rfl [] tb nb mb ab 0 es us nilS [] w h ⟨rfl, rfl⟩ (by simp))
  have c0 : w.cell? ⟨bx, 0, none⟩ = some (.pointer (some ⟨tb, 0, none⟩)) := hb.cell 0
  clear h hb
  go_enter Tryz.func268, Tryz.ntmps268
  go_wp2_with fail
  refine hcall.out.mono ?_
  rintro e w2 ⟨V, rfl, ho, hb⟩
  obtain ⟨LA, lc, rfl, _, _⟩ := own_form ho
  clear ho
  go_wp2_with fail
  go_rounds 1
  exact bodyPost_end (v := .tuple #[]) (results_none (by rfl) _ _ _) rfl ⟨rfl, hb⟩
set_option maxRecDepth 100000 in
set_option maxHeartbeats 4000000 in
theorem ops_first (t : Str) (ht : t.length ≤ 1000) (h0 : t ≠ []) (tb nb mb ab : Nat) (w : World) (h : TreeAt w tb nb mb ab 0 [] [] nilS) :
    Calls Tryz.prog 174 #[.pointer (some ⟨tb, 0, none⟩), strV t] w fun e w' => ∃ V, e = .returned (.tuple #[V, .int .i64 0]) ∧ w'.ownsRow w.heap.size 283 37 V t.length (oCells (chain t)) ∧ Below w.heap.size w w' := by
  have hcp := Lib.hid (fcopy_empty tb nb mb ab [] w h)
  have htx := Lib.hid (fun W (hb : Below w.heap.size w W) => text_chain zeros rfl [] tb nb mb ab 0 [] [] nilS [] W (h.below hb) ⟨rfl, rfl⟩ (by simp))
  have hmk := Lib.hid (fun W => dmake_nil t ht h0 W)
  unfold strV at hmk htx ⊢
  replace h := Lib.hid h
  refine calls_of_wp_marks Tryz.func174 rfl ?_
  simp only [Tryz.ntmps174, List.size_toArray, List.length_cons, List.length_nil, Nat.reduceAdd, Nat.reduceSub, Array.replicate_succ, Array.replicate_zero, List.push_toArray, List.append_toArray, List.nil_append, List.cons_append]
  go_wp2_with fail
  refine hcp.out.mono ?_
  rintro e w1 ⟨cb, rfl, hb1⟩
  replace hb1 := Lib.hid hb1
  go_wp2_with fail
  refine (htx.out _ hb1.out).mono ?_
  rintro e w2 ⟨rfl, hb2⟩
  have hb2' := Lib.hid (hb1.out.trans (hb2.mono hb1.out.size))
  clear hb2
  go_wp2_with fail
  refine (hmk.out _).mono ?_
  rintro e w3 ⟨eb, cap, rest, rfl, hel, hE, hb3⟩
  have hb3' := Lib.hid (hb2'.out.trans (hb3.mono hb2'.out.size))
  clear hb3
  replace hE := Lib.hid hE
  go_wp2_with fail
  generalize hW4 : World.alloc (World.alloc w3 _) (Obj.cells _ 336) = w4
  have hb4 : Below w3.heap.size w3 w4 := by rw [← hW4]; exact ((Below.refl _ _).alloc (Nat.le_refl _) _).alloc (by simp) _
  have hD : Blk w4 w3.heap.size 333 [.nilFunc, .func (.func 247) #[] #[], .func (.func 248) #[] #[], .func (.func 249) #[] #[]] := by rw [← hW4]; exact Blk.alloc (Blk.new_at (cs := [_, _, _, _]) rfl) _
  have hM : Blk w4 (w3.heap.size + 1) 336 (mkCells tb nilS) := by rw [← hW4]; exact Blk.new_at (cs := mkCells tb nilS) (by simp)
  have hE4 := hE.out.below hb4 hE.out.lt
  have hb4' := Lib.hid (hb3'.out.trans (hb4.mono hb3'.out.size))
  clear hW4
  replace hE := Lib.hid hE4
  clear hE4
  replace hD := Lib.hid hD
  replace hM := Lib.hid hM
  replace hb4 := Lib.hid hb4
  refine (all_empty tb _).mono ?_
  rintro e w5 ⟨rfl, rfl⟩
  go_wp2_with fail
  have hT4 : Hid (∀ W, Below (w4.alloc (.cells #[.pointer (some ⟨tb, 0, none⟩)] 192)).heap.size (w4.alloc (.cells #[.pointer (some ⟨tb, 0, none⟩)] 192)) W → TreeAt W tb nb mb ab 0 [] [] nilS ∧ Blk W w4.heap.size 192 [.pointer (some ⟨tb, 0, none⟩)]) := Lib.hid (fun W hb => by
    have h1 := (Below.refl w4.heap.size w4).alloc (Nat.le_refl _) (.cells #[.pointer (some ⟨tb, 0, none⟩)] 192)
    have hs := hb4'.out.size
    exact ⟨h.out.below (hb4'.out.trans ((h1.trans (hb.mono h1.size)).mono hs)), (Blk.new_at (cs := [.pointer (some ⟨tb, 0, none⟩)]) rfl).below hb (by simp)⟩)
  refine wp_range_none 268 #[.pointer (some ⟨w4.heap.size, 0, none⟩)] rfl (fun args W => by simp [go_sem]) (fun l W1 hb => all1_empty tb nb mb ab w4.heap.size [] [] _ W1 (hT4.out W1 hb).1 (hT4.out W1 hb).2) ?_
  intro D W hDl hbW hDD
  have h54 := (Below.refl w4.heap.size w4).alloc (Nat.le_refl _) (.cells #[.pointer (some ⟨tb, 0, none⟩)] 192)
  have hbW4 : Below w4.heap.size w4 W := h54.trans (hbW.mono h54.size)
  have hEW := hE.out.below hbW4 hE.out.lt
  have hDW := hD.out.below hbW4 hD.out.lt
  have hMW := hM.out.below hbW4 hM.out.lt
  have hTW := (hT4.out W hbW).1
  have hbWw := hb4'.out.trans (hbW4.mono hb4'.out.size)
  have hDlw := (Array.getElem?_eq_some_iff.1 hDD).1
  have e0 : W.cell? ⟨eb, 0, none⟩ = some (.int .i64 3) := hEW.cell 0
  have e1 : W.cell? ⟨eb, 1, none⟩ = some (.int .i64 0) := hEW.cell 1
  have e2 : W.cell? ⟨eb, 2, none⟩ = some (.string ⟨t.toArray⟩) := hEW.cell 2
  replace hEW := Lib.hid hEW
  replace hDW := Lib.hid hDW
  replace hMW := Lib.hid hMW
  replace hTW := Lib.hid hTW
  replace hbWw := Lib.hid hbWw
  replace hbW4 := Lib.hid hbW4
  replace hDD := Lib.hid hDD
  clear hT4 h54 hbW
  dsimp only
  go_wp2_with fail
  refine wp_loop_rounds 2 ?_
  rw [rounds_succ]
  go_wp2_with fail
  generalize hW6 : World.alloc W (Obj.cells _ 127) = w6
  have hb6 : Below W.heap.size W w6 := by rw [← hW6]; exact (Below.refl _ _).alloc (Nat.le_refl _) _
  have hX : Blk w6 W.heap.size 127 [.int .i64 3, .int .i64 0, .string ⟨t.toArray⟩] := by rw [← hW6]; exact Blk.new_at (cs := [_, _, _]) rfl
  have hD6 := hDW.out.below hb6 hDW.out.lt
  have hM6 := hMW.out.below hb6 hMW.out.lt
  have hT6 := hTW.out.below hb6
  have hDD6 := Lib.hid ((hb6.block D hDlw).trans hDD.out)
  have x0 : w6.cell? ⟨W.heap.size, 0, none⟩ = some (.int .i64 3) := hX.cell 0
  have x1 : w6.cell? ⟨W.heap.size, 1, none⟩ = some (.int .i64 0) := hX.cell 1
  have x2 : w6.cell? ⟨W.heap.size, 2, none⟩ = some (.string ⟨t.toArray⟩) := hX.cell 2
  have x3 : w6.cell? ⟨w3.heap.size, 3, none⟩ = some (.func (.func 249) #[] #[]) := hD6.cell 3
  have hb6' := Lib.hid (hbWw.out.trans (hb6.mono hbWw.out.size))
  have hput := Lib.hid (fun n => put_any t ht tb nb mb ab (w3.heap.size + 1) [] [] (w6.drewN n) (hT6.below ((Touch.drewN (L := []) n).below (Nat.le_refl _) (fun _ hi => by cases hi))) (hM6.drewN n))
  unfold strV at hput
  have hMD : w3.heap.size + 1 ≠ D := by
    have h1 := hM.out.lt
    have h2 := hDl
    simp at h2
    omega
  have hDl6 : D < w6.heap.size := Nat.lt_of_lt_of_le hDlw hb6.size
  have hws := hb3'.out.size
  clear hW6
  refine quiet_tail 5 (by kernel_rfl) (by kernel_rfl) ?_
  simp only [List.take_succ_cons, List.take_zero, List.drop_succ_cons, List.drop_zero]
  repeat (first | go_big_quiet_step (fail))
  refine wpQuiet_nil ?_
  rintro _ ⟨nq, rfl⟩
  go_wp2_with fail
  refine (hput.out nq).mono ?_
  rintro e w7 ⟨rfl, V, hM7, hO7, ht7⟩
  have m4 : w7.cell? ⟨w3.heap.size + 1, 4, none⟩ = some V := hM7.cell 4
  have hD7 := Lib.hid (show w7.heap[D]? = some (.deferred (some [])) from (ht7.block D (by simpa using hDl6) (by simp; omega)).trans hDD6.out)
  replace hM7 := Lib.hid hM7
  replace hO7 := Lib.hid hO7
  replace ht7 := Lib.hid ht7
  obtain ⟨OA, oc, rfl, _, _⟩ := own_form hO7.out
  go_wp2_with fail
  rw [rounds_succ]
  go_wp2_with fail
  have hgr := grownBy_putObj' w7 D (.deferred none)
  have hs6 := hb6'.out.size
  have hDw : w.heap.size ≤ D := by
    have h1 := hDl
    have h2 := hb4'.out.size
    simp at h1
    omega
  have t7 : Below w.heap.size w w7 := (hb6'.out.trans ((Touch.drewN (L := []) nq).below (by omega) (fun _ hi => by cases hi))).trans (ht7.out.below (by simpa using hs6) (fun i hi => by
    have : i = w3.heap.size + 1 := by simpa using hi
    omega))
  have hne : D ∉ (Value.slice OA t.length oc).ownBlock.toList := fun hm => by
    have e := Option.mem_toList.1 hm
    have h1 := (hO7.out.lt D e).1
    simp at h1
    omega
  refine leaves_mark hD7.out _ (results_tmp2 rfl _ _ _) ⟨_, rfl, row_weak (base := (w6.drewN nq).heap.size) (by simpa using hs6) (own_touch hO7.out (Touch.grown (L := [D]) hgr (fun b e => by cases e; simp)) (fun b e hm => ?_)), t7.grown hgr (Nat.le_trans hs6 (by simpa using ht7.out.size)) (fun k e => by cases e; exact hDw)⟩
  obtain rfl : b = D := by simpa using hm
  exact hne (Option.mem_toList.2 e)
end Go.Proofs.YtamdhaoglapnnaaGreatDoor
end
