/- A first commit's operations as bytes. -/
import Derived.Test.YtamdhaoglapnnaaGreatDoorM06
import Derived.Test.YtamdhaoglapnnaaGreatDoorM15
import Derived.Test.YtamdhaoglapnnaaGreatDoorM07
namespace Go.Proofs.YtamdhaoglapnnaaGreatDoor
open Go.RowKit

theorem opS_ins (k : Nat) (c : UInt8) : opS (insOp k c) = (if k = 0 then putN 0 else putN 4 ++ putN k) ++ [c] := by
  unfold opS atS
  have e : (insOp k c).at_ = atRef k := rfl
  have e2 : opN (insOp k c) = 0 := rfl
  rw [e, e2, atRef_own, atRef_n]
  by_cases h : k = 0
  · subst h
    simp [insOp]
    decide
  · simp [h, insOp]
theorem B0_one (c : UInt8) : ∀ v ∈ [B c], v.oneCell' = true := by simp [Value.oneCell']
set_option maxRecDepth 100000 in
set_option maxHeartbeats 4000000 in
theorem op_ins (k : Nat) (c : UInt8) (hk : k ≤ 2000) (v : Value) (xs : Str) (base : Nat) (w : World) (ho : w.ownsRow base 5 1 v xs.length (xs.map B)) (hbase : base ≤ w.heap.size) (hx : xs.length ≤ 1000000) :
    Calls Tryz.prog 200 #[v, .agg (opCells (insOp k c)).toArray] w (ByTo2 w base (xs ++ opS (insOp k c))) := by
  obtain ⟨FA, fc, rfl, _, _⟩ := own_form ho
  have hf := insOp_fit (k := k) c (by omega)
  rw [opS_ins]
  have hN : (insOp k c).at_.n = (k : Int) := atRef_n k
  have hO : (insOp k c).at_.own = decide (k ≠ 0) := atRef_own k
  have hW1 := (rfl : (w.alloc (.cells (opCells (insOp k c)).toArray 283)) = _)
  generalize hW1e : (w.alloc (.cells (opCells (insOp k c)).toArray 283)) = w1
  have hX : Blk w1 w.heap.size 283 (opCells (insOp k c)) := by rw [← hW1e]; exact Blk.new_at (cs := opCells (insOp k c)) rfl
  have hb1 : Below w.heap.size w w1 := by rw [← hW1e]; exact (Below.refl _ _).alloc (Nat.le_refl _) _
  have hr1 : w1.ownsRow base 5 1 (.slice FA xs.length fc) xs.length (xs.map B) := by rw [← hW1e]; exact ho.alloc _
  have hs1 := hb1.size
  obtain ⟨c0, c1, c2, c35, c36⟩ := op_cells hX hf
  rw [hN] at c35
  rw [hO] at c2
  have k0 : w1.cell? ⟨w.heap.size, 0, none⟩ = some (.int .i64 1) := c0
  have k1 : w1.cell? ⟨w.heap.size, 1, none⟩ = some (.bool false) := c1
  clear c0 c1 hW1
  have b04 : bits BinOp.or IntKind.i64 0 4 = 4 := by decide
  by_cases hk0 : k = 0
  · subst hk0
    have c2' : w1.cell? ⟨w.heap.size, 2, none⟩ = some (.bool false) := c2
    clear c2
    go_enter Tryz.func200, Tryz.ntmps200
    go_wp2_with (first
      | (refine wpList_load_part rfl 276 (.tmp 40) rfl w.heap.size 2 rfl 283 (opCells (insOp 0 c)) (refCells rootRef) [B c] hX rfl _ Tryz.underlying276 rfl (refSz rfl) ?_)
      | fail)
    have hb1' := Lib.hid hb1
    have hr1' := Lib.hid hr1
    have hX' := Lib.hid hX
    refine (root_any rootRef rfl _).mono ?_
    rintro e w2 ⟨rfl, hb2⟩
    have e1 : rootRef.root = true := by decide
    rw [e1]
    have hX2 := Lib.hid (hX'.out.below hb2 hX'.out.lt)
    have hr2 := Lib.hid (own_touch hr1'.out (Touch.ofBelow (L := []) hb2) (fun _ _ hm => by cases hm))
    have hb2' := Lib.hid (hb1'.out.trans (hb2.mono hb1'.out.size))
    have hk2 := Lib.hid ((Keep8.below hb1'.out).trans (Keep8.below hb2))
    have hsz2 : base ≤ w2.heap.size := by have := hb2.size; omega
    clear hb1 hr1 hX c35 c36 c2' k0 k1 hX' hr1'
    go_wp2_with fail
    refine (num_any 0 _ xs base _ (by omega) hr2.out hsz2 (by omega)).mono ?_
    rintro e w3 ⟨V, rfl, hr3, hb3, hk3⟩
    have hX3 := hk3 _ _ _ hX2.out (by decide)
    obtain ⟨p0, p1, p2, p35, p36⟩ := op_cells hX3 hf
    have q0 : w3.cell? ⟨w.heap.size, 0, none⟩ = some (.int .i64 1) := p0
    have q36 : w3.cell? ⟨w.heap.size, 36, none⟩ = some (B c) := p36
    obtain ⟨GA, gc, rfl, _, _⟩ := own_form hr3
    have hb3' := Lib.hid ((hb2'.out.mono hbase).trans hb3)
    have hk3' := Lib.hid (hk2.out.trans hk3)
    have hsz3 : base ≤ w3.heap.size := Nat.le_trans hsz2 hb3.size
    have hl3 : (xs ++ putN 0).length ≤ 1000020 := by
      have : (putN 0).length = 1 := by rw [putN_small (by omega)]; rfl
      simp only [List.length_append, this]
      omega
    obtain ⟨ys, hys⟩ : ∃ ys, ys = xs ++ putN 0 := ⟨_, rfl⟩
    rw [← hys] at hr3 hl3 ⊢
    replace hr3 := Lib.hid hr3
    clear p0 p1 p2 p35 p36 hb3 hk3 hX2 hr2
    replace hys := Lib.hid hys
    go_wp2_with (at_builtin; refine wpList_append_rd _ rfl (.tmp 49) (.tmp 52) 49 rfl base 5 (B 0) 1 1 Tryz.underlying49 infoB (.slice GA ys.length gc) ys.length (ys.map B) rfl (hr3.out.alloc _) (fun _ => True) (some ⟨w3.heap.size, 0, none⟩) 1 1 [B c] rfl rfl (Rd.of_blk (cs := [B c]) (r := []) (Blk.new_at rfl) rfl trivial) (B0_one c) (by unfold maxLen; omega) (by omega) (by simp; omega) ?_; intro v4 W4 hrow4 hg4 hv4; replace hrow4 := Lib.hid hrow4; replace hg4 := Lib.hid hg4; clear hv4; obtain ⟨VA, vc, rfl, _, _⟩ := own_form hrow4.out; go_frame)
    go_ret
    refine ⟨_, rfl, ?_, hb3'.out.trans (own_below (hr3.out.alloc _) hg4.out (by simp; omega) |>.mono (Nat.le_refl _) |> fun h => ((Below.refl _ _).alloc (Nat.le_refl _) _ |>.mono hsz3).trans h), ?_⟩
    · have h1 := hrow4.out
      have h2 : xs ++ (putN 0 ++ [c]) = ys ++ [c] := by rw [hys.out, List.append_assoc]
      rw [h2]
      simpa using h1
    · exact hk3'.out.trans ((Keep8.below ((Below.refl _ _).alloc (Nat.le_refl _) _)).trans (Keep8.grown (hr3.out.alloc _) hg4.out))
  · have c2' : w1.cell? ⟨w.heap.size, 2, none⟩ = some (.bool true) := by rw [c2]; simp [hk0]
    clear c2
    go_enter Tryz.func200, Tryz.ntmps200
    go_wp2_with fail
    obtain ⟨PS, hPS⟩ : ∃ PS : World → Prop, ∀ x, PS x ↔ x.cell? ⟨w.heap.size, 35, none⟩ = some (.int .i64 k) := ⟨_, fun _ => Iff.rfl⟩
    have s1 : ∀ s : Cls PS, s.1.cell? ⟨w.heap.size, 35, none⟩ = some (.int .i64 k) := fun s => (hPS _).1 s.2
    have s4 : PS w1.drew := (hPS _).2 c35
    haveI : Nonempty (Cls PS) := ⟨⟨_, s4⟩⟩
    replace hPS := Lib.hid hPS
    refine region_mix (fun w' => ∃ s : Cls PS, w' = s.1) [0, 1, 2, 4, 5, 6] [3] 7 [8] (by kernel_rfl) (by kernel_rfl) (fun _ d _ _ _ h => by cases d <;> exact h) ⟨⟨_, s4⟩, rfl⟩ ?_
    simp only [pickOps, List.map_cons, List.map_nil, nthOp_zero, nthOp_succ]
    repeat (first | go_big_quiet_step (fail))
    refine wpQuiet_nil ?_
    intro K hK
    go_simp
    refine (num_any 4 _ xs base _ (by omega) hr1.drew (by simpa using Nat.le_trans hbase hs1) (by omega)).mono ?_
    rintro e w3 ⟨V, rfl, hr3, hb3, hk3⟩
    have hX3 := hk3 _ _ _ hX.drew (by decide)
    obtain ⟨p0, p1, p2, p35, p36⟩ := op_cells hX3 hf
    rw [hN] at p35
    refine hK _ _ ⟨⟨_, (hPS.out _).2 p35⟩, rfl⟩ ?_
    change wpList _ _ _ _ _ _
    obtain ⟨ys, hys⟩ : ∃ ys, ys = xs ++ putN 4 := ⟨_, rfl⟩
    obtain ⟨GA, gc, rfl, _, _⟩ := own_form hr3
    rw [← hys] at hr3 ⊢
    have hl3 : ys.length ≤ 1000020 := by
      have : (putN 4).length = 1 := by rw [putN_small (by omega)]; rfl
      rw [hys]
      simp only [List.length_append, this]
      omega
    have hsz3 : base ≤ w3.heap.size := Nat.le_trans (by simpa using Nat.le_trans hbase hs1) hb3.size
    have hb3' := Lib.hid (((hb1.mono hbase).trans (Below.refl base w1).drew).trans hb3)
    have hk3' := Lib.hid (((Keep8.below hb1).trans (Keep8.below (Below.refl _ _).drew)).trans hk3)
    replace hys := Lib.hid hys
    replace hr3 := Lib.hid hr3
    replace hX3 := Lib.hid hX3
    clear p0 p1 p2 p36 hb3 hk3 hX hb1 hr1
    go_wp2_with fail
    refine (num_any k _ ys base _ (by omega) hr3.out hsz3 (by omega)).mono ?_
    rintro e w4 ⟨V, rfl, hr4, hb4, hk4⟩
    have hX4 := hk4 _ _ _ hX3.out (by decide)
    obtain ⟨p0, p1, p2, p35, p36⟩ := op_cells hX4 hf
    have q0 : w4.cell? ⟨w.heap.size, 0, none⟩ = some (.int .i64 1) := p0
    have q36 : w4.cell? ⟨w.heap.size, 36, none⟩ = some (B c) := p36
    obtain ⟨HA, hc, rfl, _, _⟩ := own_form hr4
    have hb4' := Lib.hid (hb3'.out.trans hb4)
    have hk4' := Lib.hid (hk3'.out.trans hk4)
    have hsz4 : base ≤ w4.heap.size := Nat.le_trans hsz3 hb4.size
    have hkl := putN_len 9 k (by omega)
    have hl4 : (ys ++ putN k).length ≤ 1000040 := by
      simp only [List.length_append]
      omega
    obtain ⟨zs, hzs⟩ : ∃ zs, zs = ys ++ putN k := ⟨_, rfl⟩
    rw [← hzs] at hr4 hl4 ⊢
    replace hr4 := Lib.hid hr4
    clear p0 p1 p2 p35 p36 hb4 hk4 hX4
    replace hzs := Lib.hid hzs
    go_wp2_with (at_builtin; refine wpList_append_rd _ rfl (.tmp 49) (.tmp 52) 49 rfl base 5 (B 0) 1 1 Tryz.underlying49 infoB (.slice HA zs.length hc) zs.length (zs.map B) rfl (hr4.out.alloc _) (fun _ => True) (some ⟨w4.heap.size, 0, none⟩) 1 1 [B c] rfl rfl (Rd.of_blk (cs := [B c]) (r := []) (Blk.new_at rfl) rfl trivial) (B0_one c) (by unfold maxLen; omega) (by omega) (by simp; omega) ?_; intro v4 W4 hrow4 hg4 hv4; replace hrow4 := Lib.hid hrow4; replace hg4 := Lib.hid hg4; clear hv4; obtain ⟨VA, vc, rfl, _, _⟩ := own_form hrow4.out; go_frame)
    go_ret
    refine ⟨_, rfl, ?_, hb4'.out.trans (own_below (hr4.out.alloc _) hg4.out (by simp; omega) |>.mono (Nat.le_refl _) |> fun h => ((Below.refl _ _).alloc (Nat.le_refl _) _ |>.mono hsz4).trans h), ?_⟩
    · have h1 := hrow4.out
      have h2 : xs ++ (putN 4 ++ (putN k ++ [c])) = zs ++ [c] := by rw [hzs.out, hys.out]; simp
      first
        | (rw [h2]; simpa using h1)
        | (rw [List.append_assoc, h2]; simpa using h1)
    · exact hk4'.out.trans ((Keep8.below ((Below.refl _ _).alloc (Nat.le_refl _) _)).trans (Keep8.grown (hr4.out.alloc _) hg4.out))
end Go.Proofs.YtamdhaoglapnnaaGreatDoor
