/- A history of one first commit: what is wrong with it. -/
import Derived.Test.YtamdhaoglapnnaaGreatDoorM30
import Derived.Test.YtamdhaoglapnnaaGreatDoorM27
namespace Go.Proofs.YtamdhaoglapnnaaGreatDoor
open Go.RowKit

theorem idT_len (a t : Str) : (idT a t).length = 32 := rfl
set_option maxRecDepth 100000 in
set_option maxHeartbeats 8000000 in
theorem hwrong_first (a t : Str) (o lv : Value) (ok : Nat → Prop) (b : Nat) (w : World) (h : OpsIs w ok o (chain t)) (ha : nmOk a = true) (ht : t.length ≤ 1000) (hK : KeysIn w) (hM : MapV w b []) :
    Calls Tryz.prog 256 #[.agg #[nilS, .map (some b)], lv, .agg (comL a o).toArray] w fun e w' => e = .returned (.tuple #[.agg ((idT a t).map B).toArray, .int .i64 0]) ∧ Below w.heap.size w w' := by
  have hcl : (chain t).length = t.length := chain_len t 0
  obtain ⟨OA, oc, rfl, hoc, hor⟩ := h
  have hO : Hid (OpsIs w ok (.slice OA (chain t).length oc) (chain t)) := Lib.hid ⟨OA, oc, rfl, hoc, hor⟩
  rw [hcl] at hO ⊢
  clear hor hoc
  have hid := Lib.hid (fun W (hb : Below w.heap.size w W) => id_first a t (.slice OA t.length oc) ok W (hO.out.stayB hb) ha ht (keys_below hK hb))
  obtain ⟨ds, hds⟩ : ∃ ds, ds = idT a t := ⟨_, rfl⟩
  have hdl : ds.length = 32 := by rw [hds]; rfl
  rw [← hds] at hid ⊢
  replace hds := Lib.hid hds
  unfold comL at hid ⊢
  go_enter Tryz.func256, Tryz.ntmps256
  go_wp2_with fail
  generalize hW1 : World.alloc (World.alloc (World.alloc w _) _) (Obj.cells _ 115) = w1
  have hb1 : Below w.heap.size w w1 := by rw [← hW1]; exact (((Below.refl _ _).alloc (Nat.le_refl _) _).alloc (by simp) _).alloc (by simp; omega) _
  have hP : Blk w1 w.heap.size 250 [nilS, .map (some b)] := by rw [← hW1]; exact ((Blk.new_at (cs := [nilS, .map (some b)]) rfl).alloc _).alloc _
  have hC : Blk w1 (w.heap.size + 1) 155 (comL a (.slice OA t.length oc)) := by rw [← hW1]; exact (Blk.new_at (cs := comL a (.slice OA t.length oc)) (by simp)).alloc _
  have hR : Blk w1 (w.heap.size + 2) 115 zero32 := by rw [← hW1]; exact Blk.new_at (cs := zero32) (by simp)
  clear hW1
  refine (hid.out _ hb1).mono ?_
  rintro e w2 ⟨rfl, hb2⟩
  have hP2 := hP.below hb2 hP.lt
  have hC2 := hC.below hb2 hC.lt
  have hR2 := hR.below hb2 hR.lt
  have hM2 := hM.below (hb1.trans (hb2.mono hb1.size)) hM.lt
  have hbw2 := hb1.trans (hb2.mono hb1.size)
  clear hb1 hb2 hP hC hR hid
  replace hP2 := Lib.hid hP2
  replace hC2 := Lib.hid hC2
  replace hR2 := Lib.hid hR2
  replace hM2 := Lib.hid hM2
  replace hbw2 := Lib.hid hbw2
  go_wp2_with (first
    | (refine wpList_store_blk rfl 115 (.tmp 8) (.tmp 22) rfl w2.heap.size (ds.map B) rfl rfl 115 zero32 (Blk.new_at rfl) (by simp [hdl, zero32]) (digSz hdl) (all_B _) ?_
       generalize hw1 : World.setRow _ w2.heap.size (ds.map B).toArray = w3
       have hD3 : Blk w3 w2.heap.size 115 (ds.map B) := by
         rw [← hw1]
         exact (Blk.new_at (w := w2) (t := 115) (cs := zero32) rfl).setRow_same (ds.map B)
       have hb3 : Below w2.heap.size w2 w3 := by
         rw [← hw1]
         exact below_setRow ((Below.refl w2.heap.size w2).alloc (Nat.le_refl _) (.cells zero32.toArray 115)) (Nat.le_refl _) (ds.map B).toArray
       clear hw1
       have hP3 := hP2.out.below hb3 hP2.out.lt
       have hC3 := hC2.out.below hb3 hC2.out.lt
       have hR3 := Lib.hid (hR2.out.below hb3 hR2.out.lt)
       have hM3 := hM2.out.below hb3 hM2.out.lt
       have hrun3 := hM3.look_none digKeys Tryz.underlying99 (z := .int .i64 0) (by kernel_rfl) (by simp) (B_digK ds hdl) (by simp) true
       have p0 : w3.cell? ⟨w.heap.size, 0, none⟩ = some nilS := hP3.cell 0
       have p1 : w3.cell? ⟨w.heap.size, 1, none⟩ = some (.map (some b)) := hP3.cell 1
       have q0 : w3.cell? ⟨w.heap.size + 1, 0, none⟩ = some nilS := hC3.cell 0
       have q3 : w3.cell? ⟨w.heap.size + 1, 3, none⟩ = some (.slice OA t.length oc) := hC3.cell 3
       replace hrun3 := Lib.hid hrun3
       replace hD3 := Lib.hid hD3
       replace hb3 := Lib.hid hb3
       replace hP3 := Lib.hid hP3
       replace hC3 := Lib.hid hC3
       go_frame)
    | (refine wpList_load_blk rfl 115 (.tmp 8) rfl w2.heap.size rfl 115 (ds.map B) hD3.out _ Tryz.underlying115 rfl (digSz hdl) ?_)
    | (refine wpList_value rfl (.tuple #[.int .i64 0, .bool false]) (exec_lookup 99 (.tmp 30) (.tmp 31) true rfl _ _ _ rfl rfl hrun3.out) ?_; go_frame)
    | fail)
  refine wp_loop_rounds 1 ?_
  rw [rounds_succ]
  go_wp2_with fail
  refine (hbeneath_nil b _).mono ?_
  rintro e w4 ⟨sb, rfl, hb4⟩
  have hC4 := hC3.out.below hb4 hC3.out.lt
  have hD4 := Lib.hid (hD3.out.below hb4 hD3.out.lt)
  have hR4 := Lib.hid (hR3.out.below hb4 hR3.out.lt)
  have hb34 := Lib.hid (hbw2.out.trans ((hb3.out.mono hbw2.out.size).trans (hb4.mono (Nat.le_trans hbw2.out.size hb3.out.size))))
  have q3' : w4.cell? ⟨w.heap.size + 1, 3, none⟩ = some (.slice OA t.length oc) := hC4.cell 3
  have q34 : ∀ o, (w4.alloc o).cell? ⟨w.heap.size + 1, 3, none⟩ = some (.slice OA t.length oc) := fun o => (hC4.alloc o).cell 3
  clear hb4 hrun3 p0 p1 q0 q3 hR3 hD3 hP3 hP2 hM2 hC2
  go_wp2_with fail
  generalize hW5 : World.alloc w4 _ = w5
  have hb5 : Below w4.heap.size w4 w5 := by rw [← hW5]; exact (Below.refl _ _).alloc (Nat.le_refl _) _
  have hD5 := hD4.out.below hb5 hD4.out.lt
  have hR5 := hR4.out.below hb5 hR4.out.lt
  have hb35 := Lib.hid (hb34.out.trans (hb5.mono hb34.out.size))
  clear hW5 q34 q3' hC4 hD4 hR4 hb34 hb5
  replace hD5 := Lib.hid hD5
  replace hR5 := Lib.hid hR5
  have hws2 := hbw2.out.size
  go_loopw [62] (fun i wr => ∃ m : Nat, m ≤ t.length ∧ i = .int .i64 m ∧ Below w5.heap.size w5 wr) (fun i _ => t.length - (intOf i).toNat)
  case atStart => exact ⟨0, Nat.zero_le _, rfl, Below.refl _ _⟩
  case round =>
    obtain ⟨m, hm, rfl, hbr⟩ := hrel
    by_cases hlt : m < t.length
    · have hOr := hO.out.stayB (hb35.out.trans (hbr.mono hb35.out.size))
      obtain ⟨b', o, rfl, hbl, hcells⟩ := chain_op hOr (by omega) hlt
      obtain ⟨c, hc⟩ : ∃ c, c = t[m] := ⟨_, rfl⟩
      rw [← hc] at hcells
      have hf := insOp_fit (k := m) c (by omega)
      have i1 : (0 : Int) ≤ (m : Int) := by omega
      have i2 : (m : Int) < (t.length : Int) := by omega
      replace hcells := Lib.hid hcells
      replace hc := Lib.hid hc
      replace hbr := Lib.hid hbr
      clear hOr hO
      by_cases hm0 : m = 0
      · replace hm0 := Lib.hid hm0
        go_wp2_with (first
          | (refine wpList_load_mid rfl 283 (.tmp 64) rfl b' (o + m * 37) rfl (opCells (insOp m c)) _ (fun j v hv => hcells.out j v hv) Tryz.underlying283 rfl (opSz hf) ?_)
          | (refine wpList_store_blk rfl 283 (.tmp 18) (.tmp 65) rfl wr.heap.size (opCells (insOp m c)) rfl rfl 283 zeroOp (Blk.new_at rfl) (by rw [opCells_len hf]; rfl) (opSz hf) (opCells_one _) ?_
             generalize hw1 : World.setRow _ wr.heap.size (opCells (insOp m c)).toArray = w9
             have hB9 : Blk w9 wr.heap.size 283 (opCells (insOp m c)) := by
               rw [← hw1]
               exact (Blk.new_at (w := wr) (t := 283) (cs := zeroOp) rfl).setRow_same (opCells (insOp m c))
             have hb9 : Below wr.heap.size wr w9 := by
               rw [← hw1]
               exact below_setRow ((Below.refl wr.heap.size wr).alloc (Nat.le_refl _) (.cells zeroOp.toArray 283)) (Nat.le_refl _) (opCells (insOp m c)).toArray
             clear hw1
             have q2 : w9.cell? ⟨wr.heap.size, 2, none⟩ = some (.bool false) := by rw [(op_cells hB9 hf).2.2.1, hm0.out]; rfl
             have q35 : w9.cell? ⟨wr.heap.size, 35, none⟩ = some (.int .i64 0) := by rw [(op_cells hB9 hf).2.2.2.1, hm0.out]; rfl
             replace hB9 := Lib.hid hB9
             replace hb9 := Lib.hid hb9
             go_frame)
          | fail)
        refine ⟨⟨m + 1, by omega, by go_num, hbr.out.trans (hb9.out.mono hbr.out.size)⟩, by simp [intOf]; omega⟩
      · go_wp2_with (first
          | (refine wpList_load_mid rfl 283 (.tmp 64) rfl b' (o + m * 37) rfl (opCells (insOp m c)) _ (fun j v hv => hcells.out j v hv) Tryz.underlying283 rfl (opSz hf) ?_)
          | (refine wpList_store_blk rfl 283 (.tmp 18) (.tmp 65) rfl wr.heap.size (opCells (insOp m c)) rfl rfl 283 zeroOp (Blk.new_at rfl) (by rw [opCells_len hf]; rfl) (opSz hf) (opCells_one _) ?_
             generalize hw1 : World.setRow _ wr.heap.size (opCells (insOp m c)).toArray = w9
             have hB9 : Blk w9 wr.heap.size 283 (opCells (insOp m c)) := by
               rw [← hw1]
               exact (Blk.new_at (w := wr) (t := 283) (cs := zeroOp) rfl).setRow_same (opCells (insOp m c))
             have hb9 : Below wr.heap.size wr w9 := by
               rw [← hw1]
               exact below_setRow ((Below.refl wr.heap.size wr).alloc (Nat.le_refl _) (.cells zeroOp.toArray 283)) (Nat.le_refl _) (opCells (insOp m c)).toArray
             clear hw1
             have q2 : w9.cell? ⟨wr.heap.size, 2, none⟩ = some (.bool true) := by
               rw [(op_cells hB9 hf).2.2.1]
               show some (Value.bool (atRef m).own) = _
               rw [atRef_own]
               simp [hm0]
             replace hB9 := Lib.hid hB9
             replace hb9 := Lib.hid hb9
             go_frame)
          | fail)
        refine ⟨⟨m + 1, by omega, by go_num, hbr.out.trans (hb9.out.mono hbr.out.size)⟩, by simp [intOf]; omega⟩
    · have hmt : m = t.length := by omega
      subst hmt
      have hDr := hD5.out.below hbr hD5.out.lt
      have hRr := hR5.out.below hbr hR5.out.lt
      have hbr' := Lib.hid (hb35.out.trans (hbr.mono hb35.out.size))
      replace hDr := Lib.hid hDr
      replace hRr := Lib.hid hRr
      go_wp2_with (first
        | (refine wpList_load_blk rfl 115 (.tmp 8) rfl w2.heap.size rfl 115 (ds.map B) hDr.out _ Tryz.underlying115 rfl (digSz hdl) ?_)
        | (refine wpList_store_blk rfl 115 (.tmp 6) (.tmp 86) rfl (w.heap.size + 2) (ds.map B) rfl rfl 115 zero32 hRr.out (by simp [hdl, zero32]) (digSz hdl) (all_B _) ?_)
        | fail)
      exact ret_blk2 rfl (w.heap.size + 2) 115 (ds.map B) _ (.int .i64 0) rfl rfl (hRr.out.setRow_same _) Tryz.underlying115 rfl (digSz hdl) rfl ⟨rfl, below_setRow hbr'.out (by omega) _⟩
end Go.Proofs.YtamdhaoglapnnaaGreatDoor
