/- A history of one first commit is read. -/
import Derived.Test.YtamdhaoglapnnaaGreatDoorM31
namespace Go.Proofs.YtamdhaoglapnnaaGreatDoor
open Go.RowKit

def nodeV (id : Str) (p : Value) : List Value := id.map B ++ [p]
theorem build_gnode (d : Str) (hd : d.length = 32) (p : Value) (w : World) (hp : ∃ A c, p = .slice A 0 c) : (Instr.build 244 #[(0, .agg (d.map B).toArray), (1, p)]).run Tryz.prog w = .ok (.agg (nodeV d p).toArray) w := by
  obtain ⟨A, c, rfl⟩ := hp
  iterate 32 (rcases d with _ | ⟨_, d⟩; · (exfalso; simp at hd; done))
  obtain rfl : d = [] := by
    simp only [List.length_cons] at hd
    exact List.length_eq_zero_iff.1 (by omega)
  kernel_rfl
theorem bslice_node (d : Str) (hd : d.length = 32) (p : Value) (w : World) (hp : ∃ A c, p = .slice A 0 c) : (Instr.buildSlice 185 1 #[(0, .agg (nodeV d p).toArray)]).run Tryz.prog w = .ok (.slice (some ⟨w.heap.size, 0, none⟩) 1 1) (w.alloc (.cells (nodeV d p).toArray 244)) := by
  obtain ⟨A, c, rfl⟩ := hp
  iterate 32 (rcases d with _ | ⟨_, d⟩; · (exfalso; simp at hd; done))
  obtain rfl : d = [] := by
    simp only [List.length_cons] at hd
    exact List.length_eq_zero_iff.1 (by omega)
  kernel_rfl
def zeroNode : List Value := nodeV zeros nilS
theorem infoNd : InfoOf Tryz.prog 244 (.agg zeroNode.toArray) 33 56 := ⟨by kernel_rfl, rfl, by omega⟩
theorem infoDg : InfoOf Tryz.prog 115 (.agg zero32.toArray) 32 32 := ⟨by kernel_rfl, rfl, by omega⟩
theorem nodeV_one (d : Str) (A : Option Addr) (c : Nat) : ∀ v ∈ nodeV d (.slice A 0 c), v.oneCell' = true := by
  intro v hv
  simp only [nodeV, List.mem_append, List.mem_map, List.mem_cons, List.not_mem_nil, or_false] at hv
  rcases hv with ⟨_, _, rfl⟩ | rfl <;> rfl
set_option maxRecDepth 100000 in
set_option maxHeartbeats 8000000 in
theorem hread_one (a t : Str) (o : Value) (ok : Nat → Prop) (lb lc : Nat) (rest : List Value) (w : World) (h : OpsIs w ok o (chain t)) (ha : nmOk a = true) (ht : t.length ≤ 1000) (hK : KeysIn w) (hL : Blk w lb 155 (comL a o ++ rest)) :
    Calls Tryz.prog 182 #[.slice (some ⟨lb, 0, none⟩) 1 lc] w fun e w' => ∃ qb nd cap pa pc rs, e = .returned (.tuple #[.agg #[.slice (some ⟨nd, 0, none⟩) 1 cap, .map (some qb)], .int .i64 0, .int .i64 0]) ∧
      MapV w' qb [(.agg ((idT a t).map B).toArray, .int .i64 0)] ∧ Blk w' nd 244 (nodeV (idT a t) (.slice pa 0 pc) ++ rs) ∧ w.heap.size ≤ qb ∧ w.heap.size ≤ nd ∧ Below w.heap.size w w' := by
  have hcl : (chain t).length = t.length := chain_len t 0
  obtain ⟨OA, oc, rfl, hoc, hor⟩ := h
  have hO : Hid (OpsIs w ok (.slice OA (chain t).length oc) (chain t)) := Lib.hid ⟨OA, oc, rfl, hoc, hor⟩
  rw [hcl] at hO hL
  clear hor hoc
  have hwr := Lib.hid (fun W b (hb : Below w.heap.size w W) (hM : MapV W b []) => hwrong_first a t (.slice OA t.length oc) (.slice (some ⟨lb, 0, none⟩) 1 lc) ok b W (hO.out.stayB hb) ha ht (keys_below hK hb) hM)
  obtain ⟨ds, hds⟩ : ∃ ds, ds = idT a t := ⟨_, rfl⟩
  have hdl : ds.length = 32 := by rw [hds]; rfl
  rw [← hds] at hwr ⊢
  replace hds := Lib.hid hds
  unfold comL at hwr
  have hmm := @run_makeMap Tryz.prog
  go_enter Tryz.func182, Tryz.ntmps182
  go_wp2_with fail
  generalize hW1 : World.alloc (World.alloc (World.alloc w _) _) (Obj.cells _ 250) = w1
  have hb1 : Below w.heap.size w w1 := by rw [← hW1]; exact (((Below.refl _ _).alloc (Nat.le_refl _) _).alloc (by simp) _).alloc (by simp; omega) _
  have hR : Blk w1 w.heap.size 250 [nilS, .map none] := by rw [← hW1]; exact ((Blk.new_at (cs := [nilS, .map none]) rfl).alloc _).alloc _
  have hM : MapV w1 (w.heap.size + 1) [] := by rw [← hW1]; exact (MapV.new_at (by simp)).alloc _
  have hP : Blk w1 (w.heap.size + 1 + 1) 250 [nilS, .map (some (w.heap.size + 1))] := by rw [← hW1]; exact Blk.new_at (cs := [nilS, .map (some (w.heap.size + 1))]) (by simp)
  clear hW1 hmm
  have hL1 := hL.below hb1 hL.lt
  have l0 : w1.cell? ⟨lb, 0, none⟩ = some nilS := hL1.cell 0
  have l1 : w1.cell? ⟨lb, 1, none⟩ = some (.string ⟨a.toArray⟩) := hL1.cell 1
  have l2 : w1.cell? ⟨lb, 2, none⟩ = some (.string ⟨#[]⟩) := hL1.cell 2
  have l3 : w1.cell? ⟨lb, 3, none⟩ = some (.slice OA t.length oc) := hL1.cell 3
  have p0' : ∀ o, (w1.alloc o).cell? ⟨w.heap.size + 1 + 1, 0, none⟩ = some nilS := fun o => (hP.alloc o).cell 0
  have p1' : ∀ o, (w1.alloc o).cell? ⟨w.heap.size + 1 + 1, 1, none⟩ = some (.map (some (w.heap.size + 1))) := fun o => (hP.alloc o).cell 1
  have p0 : w1.cell? ⟨w.heap.size + 1 + 1, 0, none⟩ = some nilS := hP.cell 0
  have p1 : w1.cell? ⟨w.heap.size + 1 + 1, 1, none⟩ = some (.map (some (w.heap.size + 1))) := hP.cell 1
  refine wp_loop_rounds 2 ?_
  rw [rounds_succ]
  replace hR := Lib.hid hR
  replace hM := Lib.hid hM
  replace hP := Lib.hid hP
  replace hL1 := Lib.hid hL1
  replace hb1 := Lib.hid hb1
  go_wp2_with fail
  generalize hW2 : World.alloc w1 (Obj.cells _ 155) = w2
  have hb2 : Below w1.heap.size w1 w2 := by rw [← hW2]; exact (Below.refl _ _).alloc (Nat.le_refl _) _
  have hX2 : Blk w2 w1.heap.size 155 (comL a (.slice OA t.length oc)) := by rw [← hW2]; exact Blk.new_at (cs := comL a (.slice OA t.length oc)) rfl
  have hb2' := hb1.out.trans (hb2.mono hb1.out.size)
  have hM2 := hM.out.below hb2 hM.out.lt
  have hP2 := hP.out.below hb2 hP.out.lt
  have hR2 := hR.out.below hb2 hR.out.lt
  clear hW2 l0 l1 l2 l3 p0 p1 p0' p1' hL1 hL
  refine (hwr.out w2 _ hb2' hM2).mono ?_
  rintro e w3 ⟨rfl, hb3⟩
  have hb3' := Lib.hid (hb2'.trans (hb3.mono hb2'.size))
  have hM3 := Lib.hid (hM2.below hb3 hM2.lt)
  have hP3 := Lib.hid (hP2.below hb3 hP2.lt)
  have hR3 := Lib.hid (hR2.below hb3 hR2.lt)
  have hX3 := Lib.hid (hX2.below hb3 hX2.lt)
  clear hM2 hP2 hR2 hX2 hb2 hb2' hb3 hwr hM hP hR
  go_wp2_with (first
    | (refine wpList_store_blk rfl 115 (.tmp 8) (.tmp 28) rfl w3.heap.size (ds.map B) rfl rfl 115 zero32 (Blk.new_at rfl) (by simp [hdl, zero32]) (digSz hdl) (all_B _) ?_
       generalize hw1 : World.setRow _ w3.heap.size (ds.map B).toArray = w4
       have hD4 : Blk w4 w3.heap.size 115 (ds.map B) := by
         rw [← hw1]
         exact (Blk.new_at (w := w3) (t := 115) (cs := zero32) rfl).setRow_same (ds.map B)
       have hb4 : Below w3.heap.size w3 w4 := by
         rw [← hw1]
         exact below_setRow ((Below.refl w3.heap.size w3).alloc (Nat.le_refl _) (.cells zero32.toArray 115)) (Nat.le_refl _) (ds.map B).toArray
       clear hw1
       have hM4 := hM3.out.below hb4 hM3.out.lt
       have hP4 := hP3.out.below hb4 hP3.out.lt
       have hR4 := hR3.out.below hb4 hR3.out.lt
       have hX4 := hX3.out.below hb4 hX3.out.lt
       have hb4' := Lib.hid (hb3'.out.trans (hb4.mono hb3'.out.size))
       obtain ⟨w5, hrun, hM5, ht5⟩ := hM4.store digKeys Tryz.underlying99 (by simp) (B_digK ds hdl) (by simp) (.int .i64 0)
       have p1 : w4.cell? ⟨w.heap.size + 1 + 1, 1, none⟩ = some (.map (some (w.heap.size + 1))) := hP4.cell 1
       have hk5 : ∀ g t' cs, Blk w4 g t' cs → Blk w5 g t' cs := fun g t' cs hB => hB.touch (touch_map ht5) (by simpa using hM4.ne_blk hB)
       have hP5 := hk5 _ _ _ hP4
       have hR5 := Lib.hid (hk5 _ _ _ hR4)
       have hX5 := hk5 _ _ _ hX4
       have hD5 := hk5 _ _ _ hD4
       have hws := hb4'.out.size
       have hb5 := Lib.hid (hb4'.out.trans ((touch_map ht5).below hws (fun i hi => by simp at hi; omega)))
       have s5 : w4.heap.size ≤ w5.heap.size := (touch_map ht5).size
       replace hrun := Lib.hid hrun
       replace hM5 := Lib.hid hM5
       replace hD4 := Lib.hid hD4
       clear hM4 hP4 hR4 hX4 hb4 ht5 hk5
       replace hP5 := Lib.hid hP5
       replace hX5 := Lib.hid hX5
       replace hD5 := Lib.hid hD5
       go_frame)
    | (refine wpList_load_blk rfl 115 (.tmp 8) rfl w3.heap.size rfl 115 (ds.map B) hD4.out _ Tryz.underlying115 rfl (digSz hdl) ?_)
    | (refine wpList_skip rfl (exec_mapUpdate 99 (.tmp 36) (.tmp 37) (.tmp 38) rfl _ _ _ rfl rfl rfl hrun.out) ?_; go_frame)
    | fail)
  clear p1 hrun hD4 hM3 hP3 hR3 hX3
  obtain ⟨PS, hPS⟩ : ∃ PS : World → Prop, ∀ x, PS x ↔ Blk x (w.heap.size + 1 + 1) 250 [nilS, .map (some (w.heap.size + 1))] ∧ Blk x w1.heap.size 155 (comL a (.slice OA t.length oc)) ∧ Blk x w3.heap.size 115 (ds.map B) := ⟨_, fun _ => Iff.rfl⟩
  have s1 : ∀ s : Cls PS, s.1.cell? ⟨w.heap.size + 1 + 1, 0, none⟩ = some nilS := fun s => ((hPS _).1 s.2).1.cell 0
  have s2 : ∀ s : Cls PS, s.1.cell? ⟨w1.heap.size, 0, none⟩ = some nilS := fun s => ((hPS _).1 s.2).2.1.cell 0
  have s3 : Hid (∀ w', (∃ s : Cls PS, w' = s.1) → Blk w' w3.heap.size 115 (ds.map B)) := Lib.hid (by rintro _ ⟨s, rfl⟩; exact ((hPS _).1 s.2).2.2)
  have s4 : PS w5.drew := (hPS _).2 ⟨hP5.out.drew, hX5.out.drew, hD5.out.drew⟩
  haveI : Nonempty (Cls PS) := ⟨⟨_, s4⟩⟩
  replace hPS := Lib.hid hPS
  refine region_seg (fun w' => ∃ s : Cls PS, w' = s.1) [([0, 1, 2, 3, 4], 5), ([6], 7)] [] 8 [9, 10] (by kernel_rfl) (by kernel_rfl) (fun _ d _ _ _ h => by cases d <;> exact h) ⟨⟨_, s4⟩, rfl⟩ ?_
  simp only [wpSeg, pickOps, List.map_cons, List.map_nil, nthOp_zero, nthOp_succ]
  repeat (first | go_big_quiet_step (fail) | (refine wpQuiet_load_part 115 (.tmp 8) rfl rfl w3.heap.size 0 rfl 115 (ds.map B) (ds.map B) [] s3.out (by simp) _ Tryz.underlying115 rfl (digSz hdl) ?_; go_frame))
  refine wpQuiet_nil ?_
  intro K hK
  have hws5 := hb5.out.size
  refine step_append_rd _ rfl (.const nilS) (.tmp 43) 108 rfl w5.heap.size 115 (.agg zero32.toArray) 32 32 Tryz.underlying108 infoDg nilS 0 [] rfl ⟨rfl, .inl ⟨rfl, rfl⟩⟩ (fun _ => True) none 0 0 [] rfl rfl Rd.nil (by simp) (by unfold maxLen; omega) (by omega) (by simp) ?_
  intro v6 w6 hrow6 hg6 hv6
  obtain ⟨pa, pc, rfl, _, _⟩ := own_form hrow6
  have hb6 : Below w5.heap.size w5 w6 := (Below.refl _ _).drew.trans (own_below (v := nilS) (n := 0) (xs := []) (e := 115) (size := 32) ⟨rfl, .inl ⟨rfl, rfl⟩⟩ hg6 (by simp))
  have hP6 := hP5.out.below hb6 hP5.out.lt
  have hX6 := hX5.out.below hb6 hX5.out.lt
  have hD6 := hD5.out.below hb6 hD5.out.lt
  have hM6 := hM5.out.below hb6 hM5.out.lt
  have hR6 := hR5.out.below hb6 hR5.out.lt
  have hbw6 := hb5.out.trans (hb6.mono hws5)
  refine hK _ _ ⟨⟨_, (hPS.out _).2 ⟨hP6, hX6, hD6⟩⟩, rfl⟩ ?_
  clear hK
  go_frame
  refine wpQuiet_run (.build 244 #[(0, .tmp 41), (1, .tmp 44)]) rfl rfl (.agg (nodeV ds (.slice pa 0 pc)).toArray) (fun w' _ => exec_build2 244 0 1 (.tmp 41) (.tmp 44) rfl (.agg (ds.map B).toArray) (.slice pa 0 pc) _ rfl rfl (build_gnode ds hdl _ w' ⟨_, _, rfl⟩)) ?_
  go_frame
  refine wpQuiet_nil ?_
  intro K hK
  refine step_run _ _ rfl _ (exec_bslice1 185 (.tmp 45) rfl _ _ rfl (bslice_node ds hdl (.slice pa 0 pc) _ ⟨_, _, rfl⟩)) ?_
  generalize hW7 : World.alloc w6 _ = w7
  have hN7 : Blk w7 w6.heap.size 244 (nodeV ds (.slice pa 0 pc)) := by rw [← hW7]; exact Blk.new_at (cs := nodeV ds (.slice pa 0 pc)) rfl
  have hb7 : Below w6.heap.size w6 w7 := by rw [← hW7]; exact (Below.refl _ _).alloc (Nat.le_refl _) _
  have hP7 := hP6.below hb7 hP6.lt
  have hX7 := hX6.below hb7 hX6.lt
  have hD7 := hD6.below hb7 hD6.lt
  have hM7 := Lib.hid (hM6.below hb7 hM6.lt)
  have hR7 := Lib.hid (hR6.below hb7 hR6.lt)
  have hbw7 := Lib.hid (hbw6.trans (hb7.mono hbw6.size))
  refine hK _ _ ⟨⟨_, (hPS.out _).2 ⟨hP7, hX7, hD7⟩⟩, rfl⟩ ?_
  clear hK hW7 hM6 hR6 hb6 hb7 hbw6 hP6 hX6 hD6 hX7 hD7
  go_frame
  refine wpQuiet_nil ?_
  have hws7 := hbw7.out.size
  replace hN7 := Lib.hid hN7
  replace hP7 := Lib.hid hP7
  go_wp2_with (at_builtin; refine wpList_append_rd _ rfl (.tmp 40) (.tmp 46) 185 rfl w7.heap.size 244 (.agg zeroNode.toArray) 33 56 Tryz.underlying185 infoNd nilS 0 [] rfl ⟨rfl, .inl ⟨rfl, rfl⟩⟩ (fun _ => True) (some ⟨w6.heap.size, 0, none⟩) 1 1 (nodeV ds (.slice pa 0 pc)) rfl (by simp [nodeV, hdl]) (Rd.of_blk (cs := nodeV ds (.slice pa 0 pc)) (r := []) hN7.out (by simp) trivial) (nodeV_one _ _ _) (by unfold maxLen; omega) (by omega) (Nat.le_refl _) ?_; intro v8 w8 hrow8 hg8 hv8; obtain ⟨nd, cap, rs, rfl, hnd, hN8⟩ := own_one hrow8; have hb8 : Below w7.heap.size w7 w8 := own_below (v := nilS) (n := 0) (xs := []) (e := 244) (size := 33) ⟨rfl, .inl ⟨rfl, rfl⟩⟩ hg8 (Nat.le_refl _); have hP8 := hP7.out.below hb8 hP7.out.lt; have c0 : w8.cell? ⟨w.heap.size + 1 + 1, 0, none⟩ = some nilS := hP8.cell 0; have f0 := hP8.frozen 0; have hM8 := Lib.hid (hM7.out.below hb8 hM7.out.lt); have hR8 := Lib.hid (hR7.out.below hb8 hR7.out.lt); have hbw8 := Lib.hid (hbw7.out.trans (hb8.mono hws7)); replace hP8 := Lib.hid hP8; replace hN8 := Lib.hid hN8; clear hrow8 hg8 hv8; go_frame)
  rw [rounds_succ]
  have hP9 := hP8.out.set_ 0 (.slice (some ⟨nd, 0, none⟩) 1 cap)
  have hne : w.heap.size ≠ w.heap.size + 1 + 1 := by omega
  have hR9 := hR8.out.far (p := ⟨w.heap.size + 1 + 1, 0, none⟩) hne (.slice (some ⟨nd, 0, none⟩) 1 cap)
  have hM9 := hM8.out.block (Below.heap_setCell w8 ⟨w.heap.size + 1 + 1, 0, none⟩ (.slice (some ⟨nd, 0, none⟩) 1 cap) _ (by show w.heap.size + 1 ≠ w.heap.size + 1 + 1; omega))
  have hN9 := hN8.out.far (p := ⟨w.heap.size + 1 + 1, 0, none⟩) (hN8.out.ne_ hP8.out (by decide)) (.slice (some ⟨nd, 0, none⟩) 1 cap)
  have hb9 : Below w.heap.size w (w8.setCell ⟨w.heap.size + 1 + 1, 0, none⟩ (.slice (some ⟨nd, 0, none⟩) 1 cap)) := hbw8.out.setCell (by show w.heap.size ≤ w.heap.size + 1 + 1; omega) _
  generalize World.setCell w8 _ _ = w9 at hP9 hR9 hM9 hN9 hb9 ⊢
  have p0 : w9.cell? ⟨w.heap.size + 1 + 1, 0, none⟩ = some (.slice (some ⟨nd, 0, none⟩) 1 cap) := hP9.cell 0
  have p1 : w9.cell? ⟨w.heap.size + 1 + 1, 1, none⟩ = some (.map (some (w.heap.size + 1))) := hP9.cell 1
  have hnd' : w.heap.size ≤ nd := by omega
  replace hP9 := Lib.hid hP9
  replace hR9 := Lib.hid hR9
  replace hM9 := Lib.hid hM9
  replace hN9 := Lib.hid hN9
  replace hb9 := Lib.hid hb9
  go_wp2_with (first | (refine wpList_store_blk rfl 250 (.tmp 2) (.tmp 50) rfl w.heap.size [.slice (some ⟨nd, 0, none⟩) 1 cap, .map (some (w.heap.size + 1))] rfl rfl 250 [nilS, .map none] hR9.out rfl (by kernel_rfl) (by simp [Value.oneCell']) ?_) | fail)
  refine ret_blk3 rfl w.heap.size 250 [.slice (some ⟨nd, 0, none⟩) 1 cap, .map (some (w.heap.size + 1))] _ rfl (hR9.out.setRow_same _) Tryz.underlying250 rfl (by kernel_rfl) rfl _ _ rfl rfl ⟨w.heap.size + 1, nd, cap, pa, pc, rs, rfl, ?_, ?_, by omega, hnd', below_setRow hb9.out (Nat.le_refl _) _⟩
  · exact hM9.out.block (setRow_other _ _ _ _ (by omega))
  · exact hN9.out.setRow_far (hN9.out.ne_ hR9.out (by decide)) _
end Go.Proofs.YtamdhaoglapnnaaGreatDoor
