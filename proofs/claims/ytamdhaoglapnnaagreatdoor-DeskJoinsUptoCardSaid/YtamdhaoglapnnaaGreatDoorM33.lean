/- A history of one first commit: what stands beneath it, its tree, its text. -/
import Derived.Test.YtamdhaoglapnnaaGreatDoorM32
namespace Go.Proofs.YtamdhaoglapnnaaGreatDoor
open Go.RowKit

set_option maxRecDepth 100000 in
set_option maxHeartbeats 8000000 in
theorem hbeneath_one (ds : Str) (hdl : ds.length = 32) (nd cap qb ib ic : Nat) (pa : Option Addr) (pc : Nat) (rs ri : List Value) (w : World) (hN : Blk w nd 244 (nodeV ds (.slice pa 0 pc) ++ rs)) (hM : MapV w qb [(.agg (ds.map B).toArray, .int .i64 0)]) (hI : Blk w ib 115 (ds.map B ++ ri)) :
    Calls Tryz.prog 191 #[.agg #[.slice (some ⟨nd, 0, none⟩) 1 cap, .map (some qb)], .slice (some ⟨ib, 0, none⟩) 1 ic] w fun e w' => ∃ sb, e = .returned (.agg #[.slice (some ⟨nd, 0, none⟩) 1 cap, .map (some qb), .slice (some ⟨sb, 0, none⟩) 1 1]) ∧ Blk w' sb 4 [.bool true] ∧ w.heap.size ≤ sb ∧ Below w.heap.size w w' := by
  have hmk := mkB1
  go_enter Tryz.func191, Tryz.ntmps191
  go_wp2_with fail
  generalize hW1 : World.alloc (World.alloc w _) (Obj.cells _ 268) = w1
  have hb1 : Below w.heap.size w w1 := by rw [← hW1]; exact ((Below.refl _ _).alloc (Nat.le_refl _) _).alloc (by simp) _
  have hP : Blk w1 w.heap.size 250 [.slice (some ⟨nd, 0, none⟩) 1 cap, .map (some qb)] := by rw [← hW1]; exact (Blk.new_at (cs := [.slice (some ⟨nd, 0, none⟩) 1 cap, .map (some qb)]) rfl).alloc _
  have hR : Blk w1 (w.heap.size + 1) 268 [nilS, .map none, nilS] := by rw [← hW1]; exact Blk.new_at (cs := [nilS, .map none, nilS]) (by simp)
  clear hW1
  have p0 : w1.cell? ⟨w.heap.size, 0, none⟩ = some (.slice (some ⟨nd, 0, none⟩) 1 cap) := hP.cell 0
  have p1 : w1.cell? ⟨w.heap.size, 1, none⟩ = some (.map (some qb)) := hP.cell 1
  have a0 : ∀ o, (w1.alloc o).cell? ⟨w.heap.size, 0, none⟩ = some (.slice (some ⟨nd, 0, none⟩) 1 cap) := fun o => (hP.alloc o).cell 0
  have a1 : ∀ o, (w1.alloc o).cell? ⟨w.heap.size, 1, none⟩ = some (.map (some qb)) := fun o => (hP.alloc o).cell 1
  have b0 : ∀ o, (w1.drew.alloc o).cell? ⟨w.heap.size, 0, none⟩ = some (.slice (some ⟨nd, 0, none⟩) 1 cap) := fun o => (hP.drew.alloc o).cell 0
  have b1 : ∀ o, (w1.drew.alloc o).cell? ⟨w.heap.size, 1, none⟩ = some (.map (some qb)) := fun o => (hP.drew.alloc o).cell 1
  have d0 : ∀ o o', ((w1.alloc o).alloc o').cell? ⟨w.heap.size, 0, none⟩ = some (.slice (some ⟨nd, 0, none⟩) 1 cap) := fun o o' => ((hP.alloc o).alloc o').cell 0
  have d1 : ∀ o o', ((w1.alloc o).alloc o').cell? ⟨w.heap.size, 1, none⟩ = some (.map (some qb)) := fun o o' => ((hP.alloc o).alloc o').cell 1
  have hN1 := Lib.hid (hN.below hb1 hN.lt)
  have hM1 := Lib.hid (hM.below hb1 hM.lt)
  have hI1 := Lib.hid (hI.below hb1 hI.lt)
  clear hN hM hI
  have hs1 : w.heap.size ≤ w1.heap.size := hb1.size
  replace hP := Lib.hid hP
  replace hR := Lib.hid hR
  replace hb1 := Lib.hid hb1
  go_upto_region 1 with fail
  go_cut [5] (fun v wx => ∃ vb sb, v = .pointer (some ⟨vb, 0, none⟩) ∧ Blk wx vb 268 [.slice (some ⟨nd, 0, none⟩) 1 cap, .map (some qb), .slice (some ⟨sb, 0, none⟩) 1 1] ∧ Blk wx sb 4 [.bool false] ∧ w1.heap.size ≤ vb ∧ w1.heap.size ≤ sb ∧ Below w1.heap.size w1 wx)
  case first =>
    go_region
    all_goals (go_wp2_with fail; go_meet; first
      | exact ⟨w1.heap.size, w1.heap.size + 1, rfl, (((Blk.new_at (cs := [.slice (some ⟨nd, 0, none⟩) 1 cap, .map (some qb), .slice (some ⟨w1.heap.size + 1, 0, none⟩) 1 1]) rfl).alloc _)).drew, (Blk.new_at (cs := [.bool false]) (by simp)).drew, Nat.le_refl _, by omega, by go_grown⟩
      | exact ⟨w1.heap.size + 1, w1.heap.size, rfl, (Blk.new_at (cs := [.slice (some ⟨nd, 0, none⟩) 1 cap, .map (some qb), .slice (some ⟨w1.heap.size, 0, none⟩) 1 1]) (by simp)).drew, ((Blk.new_at (cs := [.bool false]) rfl).alloc _).drew, by omega, Nat.le_refl _, by go_grown⟩
      | exact ⟨w1.heap.size, w1.heap.size + 1, rfl, (Blk.new_at (cs := [.slice (some ⟨nd, 0, none⟩) 1 cap, .map (some qb), .slice (some ⟨w1.heap.size + 1, 0, none⟩) 1 1]) rfl).alloc _, Blk.new_at (cs := [.bool false]) (by simp), Nat.le_refl _, by omega, by go_grown⟩)
  case rest =>
    obtain ⟨vb, sb, rfl, hV2, hS2, hvb, hsb, hb2⟩ := hcut
    clear a0 a1 b0 b1 d0 d1 p0 p1 hmk
    have hP2 := hP.out.below hb2 hP.out.lt
    have hI2 := hI1.out.below hb2 hI1.out.lt
    have hN2 := Lib.hid (hN1.out.below hb2 hN1.out.lt)
    have hM2 := Lib.hid (hM1.out.below hb2 hM1.out.lt)
    have hR2 := Lib.hid (hR.out.below hb2 hR.out.lt)
    have hb2' := Lib.hid (hb1.out.trans (hb2.mono hs1))
    replace hV2 := Lib.hid hV2
    replace hS2 := Lib.hid hS2
    replace hP2 := Lib.hid hP2
    replace hI2 := Lib.hid hI2
    clear hN1 hM1 hI1 hR hP hb1 hb2
    go_wp2_with fail
    refine wp_loop_rounds 2 ?_
    rw [rounds_succ]
    go_wp2_with (first
      | (refine wpList_load_part rfl 115 (.tmp 21) rfl ib 0 rfl 115 (ds.map B ++ ri) (ds.map B) ri hI2.out (by simp) _ Tryz.underlying115 rfl (digSz hdl) ?_)
      | (refine wpList_store_blk rfl 115 (.tmp 7) (.tmp 22) rfl wc.heap.size (ds.map B) rfl rfl 115 zero32 (Blk.new_at rfl) (by simp [hdl, zero32]) (digSz hdl) (all_B _) ?_
         generalize hw1 : World.setRow _ wc.heap.size (ds.map B).toArray = w4
         have hD4 : Blk w4 wc.heap.size 115 (ds.map B) := by
           rw [← hw1]
           exact (Blk.new_at (w := wc) (t := 115) (cs := zero32) rfl).setRow_same (ds.map B)
         have hb4 : Below wc.heap.size wc w4 := by
           rw [← hw1]
           exact below_setRow ((Below.refl wc.heap.size wc).alloc (Nat.le_refl _) (.cells zero32.toArray 115)) (Nat.le_refl _) (ds.map B).toArray
         clear hw1
         go_frame)
      | fail)
    have hV4 := hV2.out.below hb4 hV2.out.lt
    have hS4 := Lib.hid (hS2.out.below hb4 hS2.out.lt)
    have hP4 := hP2.out.below hb4 hP2.out.lt
    have hM4 := hM2.out.below hb4 hM2.out.lt
    have hN4 := Lib.hid (hN2.out.below hb4 hN2.out.lt)
    have hR4 := Lib.hid (hR2.out.below hb4 hR2.out.lt)
    have hb4' := Lib.hid (hb2'.out.trans (hb4.mono hb2'.out.size))
    have v2 : w4.cell? ⟨vb, 2, none⟩ = some (.slice (some ⟨sb, 0, none⟩) 1 1) := hV4.cell 2
    have p1 : w4.cell? ⟨w.heap.size, 1, none⟩ = some (.map (some qb)) := hP4.cell 1
    have hD5 : Hid (∀ w', (∃ n, w' = w4.drewN n) → Blk w' wc.heap.size 115 (ds.map B)) := Lib.hid (by rintro _ ⟨n, rfl⟩; exact hD4.drewN n)
    have hrun : Hid (∀ w', (∃ n, w' = w4.drewN n) → (Instr.lookup 99 (.map (some qb)) (.agg (ds.map B).toArray) false).run Tryz.prog w' = .ok (.int .i64 0) w') := Lib.hid (by
      rintro _ ⟨n, rfl⟩
      have hM5 : MapV (w4.drewN n) qb _ := hM4.block rfl
      exact hM5.look_some digKeys Tryz.underlying99 (by simpa using B_digK ds hdl) (B_digK ds hdl) (List.mem_singleton.2 rfl) (by simp) false)
    replace hV4 := Lib.hid hV4
    replace hP4 := Lib.hid hP4
    clear hV2 hS2 hP2 hM2 hN2 hR2 hb2' hb4 hD4 hI2
    refine quiet_tail 6 (by kernel_rfl) (by kernel_rfl) ?_
    simp only [List.take_succ_cons, List.take_zero, List.drop_succ_cons, List.drop_zero]
    repeat (first
      | go_big_quiet_step (fail)
      | (refine wpQuiet_load_part 115 (.tmp 7) rfl rfl wc.heap.size 0 rfl 115 (ds.map B) (ds.map B) [] hD5.out (by simp) _ Tryz.underlying115 rfl (digSz hdl) ?_; go_frame)
      | (refine wpQuiet_run (.lookup 99 (.tmp 26) (.tmp 27) false) rfl rfl (.int .i64 0) (fun w' hw' => exec_lookup 99 (.tmp 26) (.tmp 27) false rfl _ _ _ rfl rfl (hrun.out w' hw')) ?_; go_frame))
    refine wpQuiet_nil ?_
    rintro _ ⟨nq, rfl⟩
    have hS5 := hS4.out.drewN nq
    have s0 : (w4.drewN nq).cell? ⟨sb, 0, none⟩ = some (.bool false) := hS5.cell 0
    have sf := hS5.frozen 0
    have i0 : (0 : Int) < ((1 : Nat) : Int) := by omega
    go_wp2_with fail
    rw [rounds_succ]
    have hws4 := hb4'.out.size
    have hsw : w.heap.size ≤ sb := by omega
    have hV6 := (hV4.out.drewN nq).far (p := ⟨sb, 0, none⟩) ((hV4.out.drewN nq).ne_ hS5 (by decide)) (.bool true)
    have hP6 := (hP4.out.drewN nq).far (p := ⟨sb, 0, none⟩) ((hP4.out.drewN nq).ne_ hS5 (by decide)) (.bool true)
    have hN6 := (hN4.out.drewN nq).far (p := ⟨sb, 0, none⟩) ((hN4.out.drewN nq).ne_ hS5 (by decide)) (.bool true)
    have hR6 := (hR4.out.drewN nq).far (p := ⟨sb, 0, none⟩) ((hR4.out.drewN nq).ne_ hS5 (by decide)) (.bool true)
    have hS6 := hS5.set_ 0 (.bool true)
    have hb6 : Below w.heap.size w ((w4.drewN nq).setCell ⟨sb, 0, none⟩ (.bool true)) := (hb4'.out.trans ((Touch.drewN (L := []) nq).below hws4 (fun _ hi => by cases hi))).setCell (by show w.heap.size ≤ sb; exact hsw) _
    generalize World.setCell (w4.drewN nq) _ _ = w6 at hV6 hP6 hN6 hR6 hS6 hb6 ⊢
    have e0 : w6.cell? ⟨vb, 0, none⟩ = some (.slice (some ⟨nd, 0, none⟩) 1 cap) := hV6.cell 0
    have e1 : w6.cell? ⟨vb, 1, none⟩ = some (.map (some qb)) := hV6.cell 1
    have e2 : w6.cell? ⟨vb, 2, none⟩ = some (.slice (some ⟨sb, 0, none⟩) 1 1) := hV6.cell 2
    have q0 : w6.cell? ⟨w.heap.size, 0, none⟩ = some (.slice (some ⟨nd, 0, none⟩) 1 cap) := hP6.cell 0
    have n32 : w6.cell? ⟨nd, 32, none⟩ = some (.slice pa 0 pc) := by
      rw [hN6.cell]
      simp [nodeV, hdl]
    replace hR6 := Lib.hid hR6
    replace hS6 := Lib.hid hS6
    replace hb6 := Lib.hid hb6
    clear hV6 hP6 hN6 hrun hD5 v2 p1 s0 sf hS5
    go_wp2_with fail
    refine wp_loop_rounds 2 ?_
    rw [rounds_succ]
    go_wp2_with fail
    refine wp_loop_rounds 1 ?_
    rw [rounds_succ]
    go_wp2_with fail
    rw [rounds_succ]
    go_wp2_with (first | (refine wpList_store_blk rfl 268 (.tmp 4) (.tmp 63) rfl (w.heap.size + 1) [.slice (some ⟨nd, 0, none⟩) 1 cap, .map (some qb), .slice (some ⟨sb, 0, none⟩) 1 1] rfl rfl 268 [nilS, .map none, nilS] hR6.out rfl (by kernel_rfl) (by simp [Value.oneCell']) ?_) | fail)
    exact ret_blk rfl (w.heap.size + 1) 268 [.slice (some ⟨nd, 0, none⟩) 1 cap, .map (some qb), .slice (some ⟨sb, 0, none⟩) 1 1] _ rfl (hR6.out.setRow_same _) Tryz.underlying268 rfl (by kernel_rfl) rfl ⟨sb, rfl, hS6.out.setRow_far (hS6.out.ne_ hR6.out (by decide)) _, hsw, below_setRow hb6.out (by omega) _⟩
end Go.Proofs.YtamdhaoglapnnaaGreatDoor
