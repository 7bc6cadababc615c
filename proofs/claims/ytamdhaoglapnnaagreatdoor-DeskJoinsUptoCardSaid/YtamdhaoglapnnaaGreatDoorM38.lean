/- A commit in memory of its own; a first commit added to what is known. -/
import Derived.Test.YtamdhaoglapnnaaGreatDoorM37
section
namespace Go.Proofs.YtamdhaoglapnnaaGreatDoor
open Go.RowKit

theorem hclone_nil (w : World) : Calls Tryz.prog 168 #[nilS] w fun e w' => e = .returned nilS ∧ w' = w := by
  have hq := fun w => Lib.run_eql_slice_nil (P := Tryz.prog) w 108 115 none 0 0 0 0 Tryz.underlying108
  go_enter Tryz.func168, Tryz.ntmps168
  go_wp2
  go_ret
  exact ⟨rfl, rfl⟩
theorem oCells_one (l : List POp) : ∀ v ∈ oCells l, v.oneCell' = true := by
  intro v hv
  obtain ⟨x, _, hx⟩ := List.mem_flatMap.1 hv
  exact opCells_one x v hx
set_option maxRecDepth 100000 in
set_option maxHeartbeats 2000000 in
theorem oclone_row (l : List POp) (n : Nat) (hn : l.length = n) (v : Value) (ok : Nat → Prop) (w : World) (h : OpsIs w ok v l) (hf : ∀ x ∈ l, OpFit x) (hl : n ≤ 1000) (hne : 0 < n) :
    Calls Tryz.prog 254 #[v] w fun e w' => ∃ V, e = .returned V ∧ w'.ownsRow w.heap.size 283 37 V n (oCells l) ∧ Below w.heap.size w w' := by
  obtain ⟨A, c, rfl, hc, hr⟩ := h
  rw [hn] at hc ⊢
  have hlen := Lib.hid (oCells_len hf)
  rw [hn] at hlen
  have hone := Lib.hid (oCells_one l)
  have hq := fun w => Lib.run_eql_slice_nil (P := Tryz.prog) w 153 283 A n c 0 0 Tryz.underlying153
  obtain ⟨ad, rfl, _⟩ := hr (by rw [hlen.out]; omega)
  have hrd : Hid (Rd (w.alloc (.cells #[] 283)) (fun b => b < w.heap.size) (some ad) (oCells l)) := Lib.hid (hr.stay (fun b _ hlt => Below.heap_alloc _ _ _ hlt) (fun b _ hlt => hlt))
  have hown := Lib.hid (empty_row w 283 37)
  have hb0 : Hid (Below w.heap.size w (w.alloc (.cells #[] 283))) := Lib.hid ((Below.refl _ _).alloc (Nat.le_refl _) _)
  clear hr hf hn
  go_enter Tryz.func254, Tryz.ntmps254
  go_wp2_with (at_builtin; refine wpList_append_rd _ rfl (.tmp 5) (.tmp 6) 153 rfl w.heap.size 283 _ 37 72 Tryz.underlying153 infoOp (.slice (some ⟨w.heap.size, 0, none⟩) 0 0) 0 [] rfl hown.out (fun b => b < w.heap.size) (some ad) n c (oCells l) rfl hlen.out hrd.out hone.out (by unfold maxLen; omega) (by omega) (by simp) ?_; intro v' w2 hrow2 hg2 hv2; replace hrow2 := Lib.hid hrow2; replace hg2 := Lib.hid hg2; obtain ⟨VA, vc, rfl, _, _⟩ := own_form hrow2.out; go_frame)
  go_ret
  refine ⟨_, rfl, by have := hrow2.out; simpa using this, ?_⟩
  exact hb0.out.trans (own_below hown.out hg2.out (by simp))
set_option maxRecDepth 100000 in
set_option maxHeartbeats 4000000 in
theorem own_first (a t : Str) (o : Value) (ok : Nat → Prop) (w : World) (h : OpsIs w ok o (chain t)) (ht : t.length ≤ 1000) (h0 : t ≠ []) :
    Calls Tryz.prog 179 #[.agg (comL a o).toArray] w fun e w' => ∃ V, e = .returned (.agg (comL a V).toArray) ∧ w'.ownsRow w.heap.size 283 37 V t.length (oCells (chain t)) ∧ Below w.heap.size w w' := by
  have hcl : (chain t).length = t.length := chain_len t 0
  have ho := Lib.hid (fun W (hb : Below w.heap.size w W) => oclone_row (chain t) t.length hcl o ok W (h.stayB hb) (chain_fit t 0 (by omega)) ht (List.length_pos_iff.2 h0))
  obtain ⟨OA, oc, rfl, _, _⟩ := h
  rw [hcl] at ho ⊢
  generalize hW1 : (w.alloc (.cells (comL a (.slice OA t.length oc)).toArray 155)) = w1
  have hb1 : Below w.heap.size w w1 := by rw [← hW1]; exact (Below.refl _ _).alloc (Nat.le_refl _) _
  have hC1 : Blk w1 w.heap.size 155 (comL a (.slice OA t.length oc)) := by rw [← hW1]; exact Blk.new_at rfl
  go_enter Tryz.func179, Tryz.ntmps179
  go_wp2_with fail
  generalize hW2 : World.alloc w1 (Obj.cells _ 155) = w2
  have hR2 : Blk w2 w1.heap.size 155 [nilS, .string ⟨#[]⟩, .string ⟨#[]⟩, nilS] := by rw [← hW2]; exact Blk.new_at (cs := [_, _, _, _]) rfl
  have hb12 : Below w1.heap.size w1 w2 := by rw [← hW2]; exact (Below.refl _ _).alloc (Nat.le_refl _) _
  have hC2 := hC1.below hb12 hC1.lt
  have hb2 := hb1.trans (hb12.mono hb1.size)
  have hlt := hC1.lt
  clear hW1 hW2 hC1
  obtain ⟨PS, hPS⟩ : ∃ PS : World → Prop, ∀ x, PS x ↔ Blk x w.heap.size 155 (comL a (.slice OA t.length oc)) := ⟨_, fun _ => Iff.rfl⟩
  have s0 : ∀ s : Cls PS, s.1.cell? ⟨w.heap.size, 0, none⟩ = some nilS := fun s => ((hPS _).1 s.2).cell 0
  have s3 : ∀ s : Cls PS, s.1.cell? ⟨w.heap.size, 3, none⟩ = some (.slice OA t.length oc) := fun s => ((hPS _).1 s.2).cell 3
  have s4 : PS w2.drew := (hPS _).2 hC2.drew
  haveI : Nonempty (Cls PS) := ⟨⟨_, s4⟩⟩
  replace hPS := Lib.hid hPS
  refine region_seg (fun w' => ∃ s : Cls PS, w' = s.1) [([0, 1, 3, 4], 2), ([6], 5)] [] 7 [8, 9] (by kernel_rfl) (by kernel_rfl) (fun _ d _ _ _ h => by cases d <;> exact h) ⟨⟨_, s4⟩, rfl⟩ ?_
  simp only [wpSeg, pickOps, List.map_cons, List.map_nil, nthOp_zero, nthOp_succ]
  repeat (first | go_big_quiet_step (fail))
  refine wpQuiet_nil ?_
  intro K hK
  go_simp
  refine (hclone_nil _).mono ?_
  rintro e w3 ⟨rfl, rfl⟩
  refine hK _ _ ⟨⟨_, s4⟩, rfl⟩ ?_
  clear hK
  repeat (first | go_big_quiet_step (fail))
  refine wpQuiet_nil ?_
  intro K hK
  go_simp
  have hbd := hb2.trans ((Below.refl w2.heap.size w2).drew.mono hb2.size)
  refine (ho.out w2.drew hbd).mono ?_
  rintro e w4 ⟨V, rfl, hrow, hb4⟩
  obtain ⟨VA, vc, rfl, _, _⟩ := own_form hrow
  have hC4 := hC2.drew.below hb4 hC2.drew.lt
  have hR4 := hR2.drew.below hb4 hR2.drew.lt
  have hb4' := hbd.trans (hb4.mono hbd.size)
  refine hK _ _ ⟨⟨_, (hPS.out _).2 hC4⟩, rfl⟩ ?_
  clear hK
  refine wpQuiet_nil ?_
  have c0 : w4.cell? ⟨w.heap.size, 0, none⟩ = some nilS := hC4.cell 0
  have f0 := hC4.frozen 0
  have hC5 := hC4.set_ 0 nilS
  have c3 : (w4.setCell ⟨w.heap.size, 0, none⟩ nilS).cell? ⟨w.heap.size, 3, none⟩ = some (.slice OA t.length oc) := hC5.cell 3
  have f3 := hC5.frozen 3
  replace hrow := Lib.hid hrow
  have hC6 : Blk ((w4.setCell ⟨w.heap.size, 0, none⟩ nilS).setCell ⟨w.heap.size, 3, none⟩ (.slice VA t.length vc)) w.heap.size 155 (comL a (.slice VA t.length vc)) := hC5.set_ 3 (.slice VA t.length vc)
  have hR6 := (hR4.far (p := ⟨w.heap.size, 0, none⟩) (show w1.heap.size ≠ w.heap.size by omega) nilS).far (p := ⟨w.heap.size, 3, none⟩) (show w1.heap.size ≠ w.heap.size by omega) (.slice VA t.length vc)
  have hb6 := (hb4'.setCell (p := ⟨w.heap.size, 0, none⟩) (Nat.le_refl _) nilS).setCell (p := ⟨w.heap.size, 3, none⟩) (Nat.le_refl _) (.slice VA t.length vc)
  have ht6 : Touch [w.heap.size, w1.heap.size] w4 ((w4.setCell ⟨w.heap.size, 0, none⟩ nilS).setCell ⟨w.heap.size, 3, none⟩ (.slice VA t.length vc)) := (Touch.setCell _ (by simp)).trans (Touch.setCell _ (by simp)) (fun i hi => .inl hi)
  have hO6 : Hid (∀ u, Touch [w.heap.size, w1.heap.size] w4 u → u.ownsRow w.heap.size 283 37 (.slice VA t.length vc) t.length (oCells (chain t))) := Lib.hid (fun u hu => row_weak hbd.size (own_touch hrow.out hu (fun b hb hm => by
    simp only [List.mem_cons, List.not_mem_nil, or_false] at hm
    rcases hm with rfl | rfl
    · exact row_tag hrow.out hC4 (by decide) hb.symm
    · exact row_tag hrow.out hR4 (by decide) hb.symm)))
  clear hC5
  replace hC6 := Lib.hid hC6
  replace hR6 := Lib.hid hR6
  replace hb6 := Lib.hid hb6
  go_wp2_with (first
    | (refine wpList_load_blk rfl 155 (.tmp 1) rfl w.heap.size rfl 155 (comL a (.slice VA t.length vc)) hC6.out _ Tryz.underlying155 rfl (comSz _ _) ?_)
    | (refine wpList_store_blk rfl 155 (.tmp 2) (.tmp 11) rfl w1.heap.size (comL a (.slice VA t.length vc)) rfl rfl 155 [nilS, .string ⟨#[]⟩, .string ⟨#[]⟩, nilS] hR6.out rfl (comSz _ _) (by simp [comL, Value.oneCell']) ?_)
    | fail)
  refine ret_blk rfl w1.heap.size 155 (comL a (.slice VA t.length vc)) _ rfl (hR6.out.setRow_same _) Tryz.underlying155 rfl (comSz _ _) rfl ⟨_, rfl, hO6.out _ (ht6.trans (Touch.setRow (L := [w.heap.size, w1.heap.size]) (by simp) _) (fun i hi => .inl hi)), below_setRow hb6.out hb1.size _⟩
end Go.Proofs.YtamdhaoglapnnaaGreatDoor
end
section
/- A first commit, added to what is known. -/
namespace Go.Proofs.YtamdhaoglapnnaaGreatDoor
open Go.RowKit

set_option maxRecDepth 100000 in
set_option maxHeartbeats 4000000 in
theorem bslice_com (a : Str) (OA : Option Addr) (n c : Nat) (w : World) : (Instr.buildSlice 100 1 #[(0, .agg (comL a (.slice OA n c)).toArray)]).run Tryz.prog w = .ok (.slice (some ⟨w.heap.size, 0, none⟩) 1 1) (w.alloc (.cells (comL a (.slice OA n c)).toArray 155)) := by kernel_rfl
set_option maxRecDepth 100000 in
set_option maxHeartbeats 8000000 in
theorem kadd_first (ds a : Str) (hdl : ds.length = 32) (OA : Option Addr) (on oc kb by_ : Nat) (w : World) (hk : Blk w kb 102 [nilS, .map (some by_)]) (hM : MapV w by_ []) :
    Calls Tryz.prog 102 #[.pointer (some ⟨kb, 0, none⟩), .agg (ds.map B).toArray, .agg (comL a (.slice OA on oc)).toArray] w fun e w' => ∃ lb lc rest, e = .returned (.bool true) ∧ Blk w' kb 102 [.slice (some ⟨lb, 0, none⟩) 1 lc, .map (some by_)] ∧ Blk w' lb 155 (comL a (.slice OA on oc) ++ rest) ∧ MapV w' by_ [(.agg (ds.map B).toArray, .int .i64 0)] ∧ w.heap.size ≤ lb ∧ Touch [kb, by_] w w' := by
  have hkm : kb ≠ by_ := hM.ne_blk hk
  generalize hW1 : (w.alloc (.cells (ds.map B).toArray 115)) = w1
  have hb1 : Below w.heap.size w w1 := by rw [← hW1]; exact (Below.refl _ _).alloc (Nat.le_refl _) _
  have hD1 : Blk w1 w.heap.size 115 (ds.map B) := by rw [← hW1]; exact Blk.new_at rfl
  generalize hW2 : (w1.alloc (.cells (comL a (.slice OA on oc)).toArray 155)) = w2
  have hb12 : Below w1.heap.size w1 w2 := by rw [← hW2]; exact (Below.refl _ _).alloc (Nat.le_refl _) _
  have hC2 : Blk w2 w1.heap.size 155 (comL a (.slice OA on oc)) := by rw [← hW2]; exact Blk.new_at rfl
  have hb2 := hb1.trans (hb12.mono hb1.size)
  have hD2 := hD1.below hb12 hD1.lt
  have hK2 := hk.below hb2 hk.lt
  have hM2 := hM.below hb2 hM.lt
  have hD3 : Hid (∀ w', (∃ n, w' = w2.drewN n) → Blk w' w.heap.size 115 (ds.map B)) := Lib.hid (by rintro _ ⟨n, rfl⟩; exact hD2.drewN n)
  have k1 : w2.cell? ⟨kb, 1, none⟩ = some (.map (some by_)) := hK2.cell 1
  have hrun : Hid (∀ w', (∃ n, w' = w2.drewN n) → (Instr.lookup 99 (.map (some by_)) (.agg (ds.map B).toArray) true).run Tryz.prog w' = .ok (.tuple #[.int .i64 0, .bool false]) w') := Lib.hid (by
    rintro _ ⟨n, rfl⟩
    have hM5 : MapV (w2.drewN n) by_ [] := hM2.block rfl
    exact hM5.look_none digKeys Tryz.underlying99 (by rfl) (by simp) (B_digK ds hdl) (by simp) true)
  clear hD1 hk hM hb12
  replace hb2 := Lib.hid hb2
  replace hC2 := Lib.hid hC2
  replace hD2 := Lib.hid hD2
  replace hK2 := Lib.hid hK2
  replace hM2 := Lib.hid hM2
  go_enter Tryz.func102, Tryz.ntmps102
  go_wp2_with fail
  refine wp_region_quiet_lit (by kernel_rfl) (by kernel_rfl) ?_
  repeat (first
    | go_big_quiet_step (fail)
    | (refine wpQuiet_load_part 115 (.tmp 4) rfl rfl w.heap.size 0 rfl 115 (ds.map B) (ds.map B) [] hD3.out (by simp) _ Tryz.underlying115 rfl (digSz hdl) ?_; go_frame)
    | (refine wpQuiet_run (.lookup 99 (.tmp 17) (.tmp 18) true) rfl rfl (.tuple #[.int .i64 0, .bool false]) (fun w' hw' => exec_lookup 99 (.tmp 17) (.tmp 18) true rfl _ _ _ rfl rfl (hrun.out w' hw')) ?_; go_frame))
  refine wpQuiet_nil ?_
  rintro _ ⟨nq, rfl⟩
  have hK3 := hK2.out.drewN nq
  have hM3 : MapV (w2.drewN nq) by_ [] := hM2.out.block rfl
  have hC3 := hC2.out.drewN nq
  have hD3 := hD2.out.drewN nq
  have ht3 : Touch [kb, by_] w (w2.drewN nq) := (Touch.ofBelow hb2.out).trans (Touch.drewN (L := []) nq) (fun i hi => by cases hi)
  have c0 : (w2.drewN nq).cell? ⟨w1.heap.size, 0, none⟩ = some nilS := hC3.cell 0
  clear hW1 hW2 hrun k1 hC2 hD2 hK2 hM2
  generalize w2.drewN nq = w3 at hK3 hM3 hC3 hD3 ht3 c0 ⊢
  replace ht3 := Lib.hid ht3
  replace hM3 := Lib.hid hM3
  replace hC3 := Lib.hid hC3
  have k1 : w3.cell? ⟨kb, 1, none⟩ = some (.map (some by_)) := hK3.cell 1
  have k0 : w3.cell? ⟨kb, 0, none⟩ = some nilS := hK3.cell 0
  replace hK3 := Lib.hid hK3
  replace hD3 := Lib.hid hD3
  go_wp2_with fail
  refine wp_loop_rounds 1 ?_
  rw [rounds_succ]
  go_wp2_with fail
  have hD4 : Hid (∀ w', (∃ n, w' = w3.drewN n) → Blk w' w.heap.size 115 (ds.map B)) := Lib.hid (by rintro _ ⟨n, rfl⟩; exact hD3.out.drewN n)
  refine quiet_tail 10 (by kernel_rfl) (by kernel_rfl) ?_
  simp only [List.take_succ_cons, List.take_zero, List.drop_succ_cons, List.drop_zero]
  repeat (first
    | go_big_quiet_step (fail)
    | (refine wpQuiet_load_part 115 (.tmp 4) rfl rfl w.heap.size 0 rfl 115 (ds.map B) (ds.map B) [] hD4.out (by simp) _ Tryz.underlying115 rfl (digSz hdl) ?_; go_frame))
  refine wpQuiet_nil ?_
  rintro _ ⟨nq, rfl⟩
  have hM4 : MapV (w3.drewN nq) by_ [] := hM3.out.block rfl
  obtain ⟨w4, hrun, hA4, ht4⟩ := hM4.store digKeys Tryz.underlying99 (by simp) (B_digK ds hdl) (by simp) (.int .i64 0)
  have htab : Touch [by_] (w3.drewN nq) w4 := touch_map ht4
  refine wpList_skip rfl (exec_mapUpdate 99 (.tmp 45) (.tmp 46) (.tmp 51) rfl _ _ _ rfl rfl rfl hrun) ?_
  have hK4 := (hK3.out.drewN nq).touch htab (by simpa using hkm)
  have hcm : w1.heap.size ≠ by_ := hM3.out.ne_blk hC3.out
  have hC4 := (hC3.out.drewN nq).touch htab (by simpa using hcm)
  have htt : Touch [kb, by_] w w4 := (ht3.out.trans (Touch.drewN (L := []) nq) (fun i hi => by cases hi)).trans htab (fun i hi => .inl (by simp at hi ⊢; exact .inr hi))
  clear hrun ht4 hM4 hD4 k0 k1 c0 hM3 hC3 hK3 hD3 ht3 htab
  have k0 : w4.cell? ⟨kb, 0, none⟩ = some nilS := hK4.cell 0
  replace hK4 := Lib.hid hK4
  replace hC4 := Lib.hid hC4
  replace hA4 := Lib.hid hA4
  replace htt := Lib.hid htt
  go_wp2_with fail
  go_frame
  obtain ⟨PS, hPS⟩ : ∃ PS : World → Prop, ∀ x, PS x ↔ Blk x kb 102 [nilS, .map (some by_)] ∧ Blk x w1.heap.size 155 (comL a (.slice OA on oc)) := ⟨_, fun _ => Iff.rfl⟩
  have s0 : ∀ s : Cls PS, s.1.cell? ⟨kb, 0, none⟩ = some nilS := fun s => ((hPS _).1 s.2).1.cell 0
  have s1 : Hid (∀ w', (∃ s : Cls PS, w' = s.1) → Blk w' w1.heap.size 155 (comL a (.slice OA on oc))) := Lib.hid (by rintro _ ⟨s, rfl⟩; exact ((hPS _).1 s.2).2)
  have s4 : PS w4.drew := (hPS _).2 ⟨hK4.out.drew, hC4.out.drew⟩
  haveI : Nonempty (Cls PS) := ⟨⟨_, s4⟩⟩
  replace hPS := Lib.hid hPS
  refine region_seg (fun w' => ∃ s : Cls PS, w' = s.1) [([0, 1, 2, 3, 4, 5], 6), ([], 7)] [] 8 [9, 10] (by kernel_rfl) (by kernel_rfl) (fun _ d _ _ _ h => by cases d <;> exact h) ⟨⟨_, s4⟩, rfl⟩ ?_
  simp only [wpSeg, pickOps, List.map_cons, List.map_nil, nthOp_zero, nthOp_succ]
  repeat (first | go_big_quiet_step (fail) | (refine wpQuiet_load_part 155 (.tmp 5) rfl rfl w1.heap.size 0 rfl 155 (comL a (.slice OA on oc)) (comL a (.slice OA on oc)) [] s1.out (by simp) _ Tryz.underlying155 rfl (comSz _ _) ?_; go_frame))
  refine wpQuiet_nil ?_
  intro K hK
  refine step_run _ _ rfl _ (exec_bslice1 100 (.tmp 57) rfl _ _ rfl (bslice_com a OA on oc _)) ?_
  generalize hW5 : World.alloc w4.drew _ = w5
  have hX5 : Blk w5 w4.heap.size 155 (comL a (.slice OA on oc)) := by rw [← hW5]; exact Blk.new_at (by simp)
  have hb5 : Below w4.heap.size w4 w5 := by rw [← hW5]; exact ((Below.refl _ _).drew).alloc (by simp) _
  have hK5 := hK4.out.below hb5 hK4.out.lt
  have hC5 := hC4.out.below hb5 hC4.out.lt
  have hA5 := hA4.out.below hb5 hA4.out.lt
  have hs5 := hb5.size
  refine hK _ _ ⟨⟨_, (hPS.out _).2 ⟨hK5, hC5⟩⟩, rfl⟩ ?_
  clear hK hW5
  refine wpQuiet_nil ?_
  intro K hK
  refine step_append_rd _ rfl (.tmp 56) (.tmp 58) 100 rfl w4.heap.size 155 _ 4 80 Tryz.underlying100 infoCm nilS 0 [] rfl ⟨rfl, .inl ⟨rfl, rfl⟩⟩ (fun _ => True) (some ⟨w4.heap.size, 0, none⟩) 1 1 (comL a (.slice OA on oc)) rfl rfl (Rd.of_blk (cs := comL a (.slice OA on oc)) (r := []) hX5 rfl trivial) (by simp [comL, Value.oneCell']) (by unfold maxLen; omega) (by omega) hs5 ?_
  intro v6 w6 hrow6 hg6 hv6
  obtain ⟨lb, lc, rest, rfl, hlb, hL6⟩ := own_one hrow6
  have hb6 : Below w4.heap.size w5 w6 := own_below (v := nilS) (n := 0) (xs := []) (e := 155) (size := 4) ⟨rfl, .inl ⟨rfl, rfl⟩⟩ hg6 hs5
  have hb46 := hb5.trans hb6
  have hK6 := hK4.out.below hb46 hK4.out.lt
  have hC6 := hC4.out.below hb46 hC4.out.lt
  have hA6 := hA4.out.below hb46 hA4.out.lt
  have ht6 := htt.out.under (hb46.mono htt.out.size)
  refine hK _ _ ⟨⟨_, (hPS.out _).2 ⟨hK6, hC6⟩⟩, rfl⟩ ?_
  clear hK hrow6 hg6 hv6 s0 s1 hK5 hC5 hA5 hX5 hb5 hb6
  refine wpQuiet_nil ?_
  have k6 : w6.cell? ⟨kb, 0, none⟩ = some nilS := hK6.cell 0
  have f6 := hK6.frozen 0
  have hne : lb ≠ kb := hL6.ne_ hK6 (by decide)
  have hkl := hK4.out.lt
  have hws := htt.out.size
  have hK7 := hK6.set_ 0 (.slice (some ⟨lb, 0, none⟩) 1 lc)
  have hL7 := hL6.far (p := ⟨kb, 0, none⟩) hne (.slice (some ⟨lb, 0, none⟩) 1 lc)
  have hA7 : MapV (w6.setCell ⟨kb, 0, none⟩ (.slice (some ⟨lb, 0, none⟩) 1 lc)) by_ _ := hA6.block (Below.heap_setCell w6 ⟨kb, 0, none⟩ (.slice (some ⟨lb, 0, none⟩) 1 lc) _ (fun e => hkm e.symm))
  have ht7 : Touch [kb, by_] w (w6.setCell ⟨kb, 0, none⟩ (.slice (some ⟨lb, 0, none⟩) 1 lc)) := ht6.trans (Touch.setCell (L := [kb, by_]) _ (by simp)) (fun i hi => .inl hi)
  replace hK7 := Lib.hid hK7
  replace hL7 := Lib.hid hL7
  replace hA7 := Lib.hid hA7
  replace ht7 := Lib.hid ht7
  clear hL6 hA6 ht6 hK6 hC6
  go_wp2_with fail
  go_returns
  exact ⟨lb, lc, rest, rfl, hK7.out, hL7.out, hA7.out, by omega, ht7.out⟩
end Go.Proofs.YtamdhaoglapnnaaGreatDoor
end
