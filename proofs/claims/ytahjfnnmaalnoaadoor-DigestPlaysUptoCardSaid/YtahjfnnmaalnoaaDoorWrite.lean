/- The walk of Hash.Write. -/
import Derived.Test.YtahjfnnmaalnoaaDoorHashS
import Derived.Test.YtahjfnnmaalnoaaDoorMem2
import Derived.Test.YtahjfnnmaalnoaaDoorPerm
import Derived.BigQuiet
import Derived.LoopTactic
namespace Go.Proofs.YtahjfnnmaalnoaaDoor
open Go.RowKit

def lenOf : Value → Nat | .slice _ n _ => n | _ => 0

theorem keys_ne {w : World} {g : Nat} {msg : List UInt8} (hK : KeysIn w) (hH : HashIs w g msg) : g ≠ 0 := by
  rintro rfl
  obtain ⟨r, _, _, h3⟩ := hH
  have h1 := hK 0 (by omega)
  rw [h3.cell] at h1
  simp [hashCells] at h1
theorem keys_grown {w w' : World} {g : Nat} (hK : KeysIn w) (hg : g ≠ 0) (h : w.grownBy w' (some g)) : KeysIn w' := fun i hi =>
  h.cell (hK i hi) (by simp; exact fun e => hg e.symm)

theorem setRow_grown (w : World) (n g : Nat) (c : Array Value) : w.grownBy ((w.drewN n).setRow g c) (some g) :=
  ⟨rfl, rfl, rfl, by simp, fun k _ hne => setRow_other _ _ _ _ (fun e => hne (by rw [e]))⟩
theorem all_B (l : List UInt8) : ∀ v ∈ l.map B, v.oneCell' = true := by
  intro v hv
  obtain ⟨x, _, rfl⟩ := List.mem_map.1 hv
  rfl
def WRel (w : World) (g : Nat) (msg xs : List UInt8) (b : Value) (wr : World) : Prop :=
  ∃ (done cap : Nat) (A : Option Addr), done ≤ xs.length ∧ b = .slice A (xs.length - done) cap ∧ xs.length - done ≤ cap ∧ Rd wr (· ≠ g) A ((xs.drop done).map B) ∧ HashIs wr g (msg ++ xs.take done) ∧ w.grownBy wr (some g)

theorem rd_grown {w w' : World} {g : Nat} {A : Option Addr} {xs : List Value} (h : Rd w (· ≠ g) A xs) (hg : w.grownBy w' (some g)) : Rd w' (· ≠ g) A xs := fun hn => by
  obtain ⟨ad, e, hb, hc⟩ := h hn
  refine ⟨ad, e, hb, fun j u hu => hg.cell (hc j u hu) ?_⟩
  rw [block_add]; simpa using hb
theorem grown_trans {w w1 w2 : World} {g : Nat} (h1 : w.grownBy w1 (some g)) (h2 : w1.grownBy w2 (some g)) : w.grownBy w2 (some g) :=
  ⟨h2.os.trans h1.os, h2.tape.trans h1.tape, h2.output.trans h1.output, Nat.le_trans h1.size h2.size, fun k hk hne => (h2.block k (Nat.lt_of_lt_of_le hk h1.size) hne).trans (h1.block k hk hne)⟩
theorem grown_setCell (w : World) (g i : Nat) (u : Value) : w.grownBy (w.setCell ⟨g, i, none⟩ u) (some g) :=
  ⟨rfl, rfl, rfl, by simp, fun _ _ hne => Below.heap_setCell _ _ _ _ (fun e => hne (by rw [e]))⟩
theorem grown_drewN (w : World) (g n : Nat) : w.grownBy (w.drewN n) (some g) := ⟨rfl, rfl, rfl, Nat.le_refl _, fun _ _ _ => rfl⟩
theorem wrel_step {w : World} {g : Nat} {msg xs : List UInt8} {done cap : Nat} {A : Option Addr} {wr W : World} {k : Nat} (hd : done + k ≤ xs.length) (hc : xs.length - done ≤ cap)
    (hR : Rd wr (· ≠ g) A ((xs.drop done).map B)) (hG : w.grownBy wr (some g)) (hG2 : wr.grownBy W (some g)) (hH : HashIs W g ((msg ++ xs.take done) ++ (xs.drop done).take k)) :
    WRel w g msg xs (.slice (cutA A cap k 1) (xs.length - done - k) (cap - k)) W := by
  refine ⟨done + k, cap - k, cutA A cap k 1, hd, by rw [Nat.sub_sub], by omega, ?_, ?_, grown_trans hG hG2⟩
  · have := rd_grown (hR.cutA (k := k) (cap := cap) (by simpa using hc)) hG2
    rwa [← List.map_drop, List.drop_drop] at this
  · rw [List.take_add, ← List.append_assoc]; exact hH

set_option maxRecDepth 100000 in
set_option maxHeartbeats 1000000 in
theorem write_any (g : Nat) (msg xs : List UInt8) (A : Option Addr) (cap : Nat) (w : World) (hH : HashIs w g msg) (hA : Rd w (· ≠ g) A (xs.map B)) (hcap : xs.length ≤ cap)
    (hn : msg.length + xs.length ≤ 4611686018427387904) (hK : KeysIn w) :
    Calls Tryd.prog 19 #[.pointer (some ⟨g, 0, none⟩), .slice A xs.length cap] w fun e w' =>
      e = .returned (.tuple #[]) ∧ HashIs w' g (msg ++ xs) ∧ w.grownBy w' (some g) := by
  have hne := keys_ne hK hH
  have hc0 : w.cell? ⟨g, 0, none⟩ = some (.bool true) := by
    obtain ⟨r, _, _, h3⟩ := hH
    rw [h3.cell]; rfl
  go_enter Tryd.func19, Tryd.ntmps19
  go_wp2
  clear hc0
  go_loopw [1] (fun b wr => WRel w g msg xs b wr) (fun b _ => lenOf b)
  case atStart => exact ⟨0, cap, A, by omega, rfl, by omega, hA, by simpa using hH, World.grownBy.refl w _⟩
  case round =>
    obtain ⟨done, cap', A', hd, rfl, hc', hR, hI, hG⟩ := hrel
    by_cases hlt : done < xs.length
    · obtain ⟨m, hm⟩ : ∃ m, m = msg ++ xs.take done := ⟨_, rfl⟩
      obtain ⟨ys, hys⟩ : ∃ ys, ys = xs.drop done := ⟨_, rfl⟩
      have hyl : ys.length = xs.length - done := by rw [hys, List.length_drop]
      have hmn : m.length + ys.length ≤ 4611686018427387904 := by rw [hm, hyl, List.length_append, List.length_take]; omega
      have hypos : 0 < ys.length := by omega
      rw [← hyl] at hc' ⊢
      rw [← hys] at hR
      rw [← hm] at hI
      replace hyl := Lib.hid hyl
      replace hm := Lib.hid hm
      replace hys := Lib.hid hys
      obtain ⟨rest, hr, ht, hB⟩ := hI
      obtain ⟨k, hk⟩ : ∃ k, k = min ys.length (64 - m.length % 64) := ⟨_, rfl⟩
      have hk0 : 0 < k := by omega
      have hk1 : k ≤ ys.length := by omega
      have hk2 : m.length % 64 + k ≤ 64 := by omega
      have hc73 : wr.cell? ⟨g, 73, none⟩ = some (.int .i64 (m.length : Int)) := by rw [hB.cell]; exact hashCells_73 _ _ _ _ hr
      obtain ⟨o, ho⟩ : ∃ o, o = m.length % 64 := ⟨_, rfl⟩
      have hoI : (m.length : Int) % 64 = (o : Int) := by omega
      have ho63 : o ≤ 63 := by omega
      rw [← ho] at hk hk2
      replace ho := Lib.hid ho
      obtain ⟨ad, rfl, hadg, hcell⟩ := hR (by simpa using hypos)
      have hsrc : ∀ j v, ((ys.take k).map B)[j]? = some v → wr.cell? (ad.add j) = some v := fun j v hv => hcell j v (by
        rw [List.map_take, List.getElem?_take] at hv
        split at hv
        · exact hv
        · cases hv)
      replace hcell := Lib.hid hcell
      replace hsrc := Lib.hid hsrc
      replace hr := Lib.hid hr
      replace ht := Lib.hid ht
      replace hk := Lib.hid hk
      go_wp2
      refine quiet_tail 10 (by kernel_rfl) (by kernel_rfl) ?_
      simp only [List.take_succ_cons, List.take_zero, List.drop_succ_cons, List.drop_zero]
      repeat (first
        | (refine wpQuiet_slice_lo 46 (.tmp 19) (.tmp 24) rfl rfl 5 64 Tryd.underlying46 (by kernel_rfl) g 9 o _ rfl rfl hoI (by omega) ?_
           go_frame)
        | go_big_quiet_step (fail))
      refine wpQuiet_nil ?_
      rintro _ ⟨nq, rfl⟩
      have hlk2 : ((ys.take k).map B).length = Nat.min ys.length (64 - o) := by
        rw [List.length_map, List.length_take, hk.out]; show min (min ys.length (64 - o)) ys.length = min ys.length (64 - o); omega
      refine wpList_copy_blk rfl (.tmp 25) (.tmp 26) 22 22 rfl 5 Tryd.underlying22 (by kernel_rfl) g (9 + o) (64 - o) (64 - o) ad ys.length cap' rfl rfl _ 48 (hB.drewN nq)
        ((ys.take k).map B) hlk2 hsrc.out (by rw [hashCells_len _ _ _ _ hr.out, List.length_map, List.length_take]; omega) (all_B _) ?_
      have hB2 : Blk ((wr.drewN nq).setRow g (splice (hashCells true (blocksS m (m.length / 64)) rest m.length) (9 + o) ((ys.take k).map B)).toArray) g 48 (hashCells true (blocksS m (m.length / 64)) (splice rest o (ys.take k)) m.length) := by
        rw [hashCells_rest _ _ _ _ _ _ hr.out (by rw [List.length_take]; omega)]; exact (hB.drewN nq).setRow_same _
      have hG2 : wr.grownBy ((wr.drewN nq).setRow g (splice (hashCells true (blocksS m (m.length / 64)) rest m.length) (9 + o) ((ys.take k).map B)).toArray) (some g) := setRow_grown _ _ _ _
      have hlk : ((ys.take k).map B).length = k := by rw [List.length_map, List.length_take]; omega
      rw [hlk]
      generalize (wr.drewN nq).setRow g _ = wr2 at hB2 hG2 ⊢
      clear hlk hlk2 hc73
      go_frame
      have hc73 : wr2.cell? ⟨g, 73, none⟩ = some (.int .i64 (m.length : Int)) := by rw [hB2.cell]; exact hashCells_73 _ _ _ _ (splice_len _ _ _ hr.out (by rw [List.length_take]; omega))
      have hf73 := hB2.frozen 73
      have hpl : (ys.take k).length = k := by rw [List.length_take]; omega
      replace hpl := Lib.hid hpl
      by_cases hz : (m.length + k) % 64 = 0
      · have hzb : (((m.length : Int) + (k : Int)) % 64 == 0) = true := by rw [beq_iff_eq]; omega
        replace hz := Lib.hid hz
        go_wp2_with (refine wpList_slice_from rfl 22 (.tmp 36) (.tmp 37) rfl 5 1 Tryd.underlying22 (by kernel_rfl) (some ad) ys.length cap' k rfl rfl hk1 ?_)
        have hB3 := hB2.set_ 73 (.int .i64 ((m.length : Int) + (k : Int)))
        rw [← Int.natCast_add, hashCells_n _ _ _ _ _ (splice_len _ _ _ hr.out (by rw [hpl.out]; omega))] at hB3
        rw [← Int.natCast_add]
        have hG3 := grown_trans hG2 (grown_setCell wr2 g 73 (.int .i64 ((m.length + k : Nat) : Int)))
        generalize wr2.setCell _ _ = wr3 at hB3 hG3 ⊢
        clear hc73 hf73 hB2 hG2 hzb
        obtain ⟨rest2, hrest2⟩ : ∃ r, r = splice rest o (ys.take k) := ⟨_, rfl⟩
        rw [← hrest2] at hB3
        have hl2 : rest2.length = 64 := by rw [hrest2]; exact splice_len _ _ _ hr.out (by rw [hpl.out]; omega)
        replace hl2 := Lib.hid hl2
        replace hrest2 := Lib.hid hrest2
        obtain ⟨st, hst⟩ : ∃ st, st = blocksS m (m.length / 64) := ⟨_, rfl⟩
        rw [← hst] at hB3
        replace hst := Lib.hid hst
        refine region_perm (C := fun w' => ∃ n, w' = wr3.drewN n) [0, 1, 2, 3, 5, 6, 7, 8] [4] 9 [10, 11, 12] (by kernel_rfl) (by kernel_rfl) (fun _ d _ _ _ h => by cases d <;> exact h) ⟨1, rfl⟩ ?_
        simp only [pickOps, List.map_cons, List.map_nil, nthOp_zero, nthOp_succ]
        repeat (go_big_quiet_step (fail))
        refine wpQuiet_nil ?_
        repeat (first
          | (refine wpQuiet_load_part 45 (.tmp 48) rfl rfl g 1 rfl 48 (hashCells true st rest2 (m.length + k)) st.cells (rest2.map B ++ [.int .i64 ((m.length + k : Nat) : Int)]) (fun w hw => ?_) rfl (.array 8 43) Tryd.underlying45 rfl (by kernel_rfl) ?_
             · obtain ⟨n, rfl⟩ := hw
               exact hB3.drewN n
             go_frame)
          | go_big_quiet_step (fail))
        refine wpQuiet_nil ?_
        rintro _ ⟨nq2, rfl⟩
        replace hB3 := hB3.drewN nq2
        replace hG3 := grown_trans hG3 (grown_drewN wr3 g nq2)
        generalize wr3.drewN nq2 = wr4 at hB3 hG3 ⊢
        have hK4 := keys_grown hK hne (grown_trans hG hG3)
        have hcs : ∀ i, i < 64 → wr4.cell? ⟨g, 9 + i, none⟩ = some (B (rest2.getD i 0)) := fun i hi => by
          have h1 : (hashCells true st rest2 (m.length + k))[9 + i]? = ((hashCells true st rest2 (m.length + k)).drop 9)[i]? := by rw [List.getElem?_drop]
          have h2 : i < rest2.length := by rw [hl2.out]; exact hi
          rw [hB3.cell, h1, hashCells_drop9, List.getElem?_append_left (by simpa using h2)]
          simp [h2]
        replace hcs := Lib.hid hcs
        have hfit : 1 + (mixS st rest2).cells.length ≤ (hashCells true st rest2 (m.length + k)).length := by rw [hashCells_len _ _ _ _ hl2.out]; exact (by decide : 1 + 8 ≤ 74)
        replace hfit := Lib.hid hfit
        go_wp2_with (first
          | (go_at_call 30; refine (mixed_any st g 9 64 rest2 _ hB3.lt hcs.out hK4).mono ?_; rintro e w5 ⟨rfl, hb5⟩)
          | (refine wpList_store_part rfl 45 (.tmp 56) (.tmp 54) rfl g 1 (mixS st rest2).cells rfl rfl 48 (hashCells true st rest2 (m.length + k)) (hB3.below hb5 hB3.lt) hfit.out (by kernel_rfl) (all_W _) ?_))
        go_frame
        go_roundw
        case rel =>
          have hB5 := hB3.below hb5 hB3.lt
          have hG5 : wr.grownBy (w5.setRow g (splice (hashCells true st rest2 (m.length + k)) 1 (mixS st rest2).cells).toArray) (some g) := grown_trans (grown_trans hG3 (grown_of_below hb5)) (setRow_grown w5 0 _ _)
          have hB6 := hB5.setRow_same (splice (hashCells true st rest2 (m.length + k)) 1 (mixS st rest2).cells)
          rw [hashCells_s] at hB6
          rw [hyl.out] at hc' ⊢
          rw [hys.out] at hR
          refine wrel_step (k := k) (done := done) (by have := hyl.out; omega) hc' hR hG hG5 ?_
          rw [← hys.out, ← hm.out]
          have hp := hpl.out
          have hz1 := hz.out
          have ho1 := ho.out
          refine hash_hi hr.out ht.out (by omega) ?_
          rw [hp, ← ho1, ← hrest2.out, ← hst.out]; exact hB6
        case measure => simp [lenOf]; omega
      · have hzb : (((m.length : Int) + (k : Int)) % 64 == 0) = false := by rw [beq_eq_false_iff_ne]; omega
        replace hz := Lib.hid hz
        go_wp2_with (refine wpList_slice_from rfl 22 (.tmp 36) (.tmp 37) rfl 5 1 Tryd.underlying22 (by kernel_rfl) (some ad) ys.length cap' k rfl rfl hk1 ?_)
        go_roundw
        case rel =>
          have hB3 := hB2.set_ 73 (.int .i64 ((m.length : Int) + (k : Int)))
          rw [← Int.natCast_add, hashCells_n _ _ _ _ _ (splice_len _ _ _ hr.out (by rw [hpl.out]; omega))] at hB3
          rw [← Int.natCast_add]
          rw [hyl.out] at hc' ⊢
          rw [hys.out] at hR
          refine wrel_step (k := k) (done := done) (by have := hyl.out; omega) hc' hR hG (grown_trans hG2 (grown_setCell _ _ _ _)) ?_
          rw [← hys.out, ← hm.out]
          have hp := hpl.out
          have hz1 := hz.out
          have ho1 := ho.out
          refine hash_lo hr.out ht.out (by omega) ?_
          rw [hp, ← ho1]; exact hB3
        case measure => simp [lenOf]; omega
    · obtain rfl : done = xs.length := by omega
      go_wp2
      go_end0
      refine ⟨rfl, by simpa using hI, hG⟩
end Go.Proofs.YtahjfnnmaalnoaaDoor
