/- The walks of first and New. -/
import Derived.Test.YtamdhaoglapnnaaGreatDoorM24
import Derived.Deep.DeepMust
import Derived.Test.YtamdhaoglapnnaaGreatDoorM01
import Derived.BigQuiet
import Derived.LoopTactic
section
namespace Go.Proofs.YtamdhaoglapnnaaGreatDoor
open Go.RowKit

/-- A hash's cells. -/
def hashCells (made : Bool) (s : St) (rest : List UInt8) (n : Nat) : List Value := .bool made :: (s.cells ++ (rest.map B ++ [.int .i64 (n : Int)]))

set_option maxHeartbeats 400000 in
theorem first_any (w : World) :
    Calls Tryz.prog 215 #[] w fun e w' => e = .returned (.agg st0.cells.toArray) ∧ Below w.heap.size w w' := by
  go_enter Tryz.func215, Tryz.ntmps215
  go_wp2
  refine bodyPost_ret (v := .agg st0.cells.toArray) (by simp [results, Tryz.results215, go_sem]; rfl) rfl ⟨rfl, (Below.refl _ _).alloc (Nat.le_refl _) _⟩

set_option maxRecDepth 100000 in
set_option maxHeartbeats 400000 in
theorem new_any (w : World) :
    Calls Tryz.prog 152 #[] w fun e w' => ∃ g, e = .returned (.pointer (some ⟨g, 0, none⟩)) ∧ w.heap.size ≤ g ∧ Blk w' g 304 (hashCells true st0 (List.replicate 64 0) 0) ∧ Below w.heap.size w w' := by
  go_enter Tryz.func152, Tryz.ntmps152
  go_wp2_with (first
    | (go_at_call 215; refine (first_any _).mono ?_; rintro e w1 ⟨rfl, hb1⟩)
    | (refine wpList_run (.build 304 #[(0, .const (.bool true)), (1, .tmp 1)]) rfl rfl (.agg (hashCells true st0 (List.replicate 64 0) 0).toArray) (by kernel_rfl) ?_))
  go_ret
  exact ⟨_, rfl, hb1.size, Blk.new_at rfl, hb1.alloc hb1.size _⟩
end Go.Proofs.YtamdhaoglapnnaaGreatDoor
end
section
/- What a hash holds, as a function of the bytes that it took. Plain. -/
namespace Go.Proofs.YtamdhaoglapnnaaGreatDoor
open Go.RowKit

/-- The state behind the first k blocks of 64 bytes. -/
def blocksS (msg : List UInt8) : Nat → St
  | 0 => st0
  | k + 1 => mixS (blocksS msg k) ((msg.drop (64 * k)).take 64)
theorem blocksS_app (msg more : List UInt8) (k : Nat) (h : 64 * k ≤ msg.length) : blocksS (msg ++ more) k = blocksS msg k := by
  induction k with
  | zero => rfl
  | succ k ih =>
    have h1 : 64 * k ≤ msg.length := by omega
    rw [blocksS, blocksS, ih h1]
    congr 1
    rw [List.drop_append_of_le_length h1, List.take_append_of_le_length (by simp; omega)]

/-- What the cells of a hash are that took msg: the rest's first bytes are msg's last ones. -/
def HashIs (w : World) (g : Nat) (msg : List UInt8) : Prop :=
  ∃ rest : List UInt8, rest.length = 64 ∧ rest.take (msg.length % 64) = msg.drop (64 * (msg.length / 64)) ∧
    Blk w g 304 (hashCells true (blocksS msg (msg.length / 64)) rest msg.length)

theorem hashIs_new {w : World} {g : Nat} (h : Blk w g 304 (hashCells true st0 (List.replicate 64 0) 0)) : HashIs w g [] :=
  ⟨List.replicate 64 0, by simp, by simp, h⟩
theorem hashIs_keep {w w' : World} {g : Nat} {msg : List UInt8} (h : HashIs w g msg) (hb : w'.heap[g]? = w.heap[g]?) : HashIs w' g msg := by
  obtain ⟨r, h1, h2, h3⟩ := h
  exact ⟨r, h1, h2, hb.trans h3⟩

/-- A piece that fills the rest's room from place o on. -/
theorem rest_step (msg piece rest : List UInt8) (hr : rest.length = 64) (ht : rest.take (msg.length % 64) = msg.drop (64 * (msg.length / 64))) :
    (splice rest (msg.length % 64) piece).take (msg.length % 64 + piece.length) = (msg ++ piece).drop (64 * (msg.length / 64)) := by
  have h1 : 64 * (msg.length / 64) ≤ msg.length := by omega
  rw [List.drop_append_of_le_length h1, ← ht]
  unfold splice
  rw [← List.append_assoc, List.take_append_of_le_length (by simp; omega)]
  exact List.take_of_length_le (by simp; omega)
theorem splice_len (rest piece : List UInt8) (o : Nat) (hr : rest.length = 64) (hp : o + piece.length ≤ 64) : (splice rest o piece).length = 64 := by
  rw [length_splice _ _ _ (by omega)]; exact hr

theorem hashCells_rest (made : Bool) (s : St) (rest piece : List UInt8) (n o : Nat) (hr : rest.length = 64) (hp : o + piece.length ≤ 64) :
    splice (hashCells made s rest n) (9 + o) (piece.map B) = hashCells made s (splice rest o piece) n := by
  unfold hashCells
  have hs : s.cells.length = 8 := rfl
  have e : ∀ X : List Value, splice (.bool made :: (s.cells ++ X)) (9 + o) (piece.map B) = .bool made :: (s.cells ++ splice X o (piece.map B)) := by
    intro X
    unfold splice
    rw [show 9 + o = (8 + o) + 1 by omega, List.take_succ_cons, ← hs, List.take_length_add_append, List.cons_append, List.append_assoc]
    congr 3
    rw [show s.cells.length + o + 1 + (piece.map B).length = (s.cells.length + (o + (piece.map B).length)) + 1 by omega, List.drop_succ_cons, List.drop_length_add_append]
  rw [e]
  congr 2
  unfold splice
  rw [List.take_append_of_le_length (by simp; omega), List.map_append, List.map_append, List.map_take, List.append_assoc, List.append_assoc, List.drop_append_of_le_length (by simp; omega), List.length_map, List.map_drop]
theorem hashCells_n (made : Bool) (s : St) (rest : List UInt8) (n m : Nat) (hr : rest.length = 64) : (hashCells made s rest n).set 73 (.int .i64 (m : Int)) = hashCells made s rest m := by
  unfold hashCells
  have hs : s.cells.length = 8 := rfl
  rw [List.set_cons_succ, List.set_append_right _ _ (by omega), List.set_append_right _ _ (by simp; omega)]
  simp [hr, hs]
theorem hashCells_s (made : Bool) (s s' : St) (rest : List UInt8) (n : Nat) : splice (hashCells made s rest n) 1 s'.cells = hashCells made s' rest n := rfl
theorem hashCells_len (made : Bool) (s : St) (rest : List UInt8) (n : Nat) (hr : rest.length = 64) : (hashCells made s rest n).length = 74 := by
  have hs : s.cells.length = 8 := rfl
  simp [hashCells, hr, hs]
theorem hashCells_drop9 (made : Bool) (s : St) (rest : List UInt8) (n : Nat) : (hashCells made s rest n).drop 9 = rest.map B ++ [.int .i64 (n : Int)] := rfl
theorem hashCells_73 (made : Bool) (s : St) (rest : List UInt8) (n : Nat) (hr : rest.length = 64) : (hashCells made s rest n)[73]? = some (.int .i64 (n : Int)) := by
  have : (hashCells made s rest n)[73]? = ((hashCells made s rest n).drop 9)[64]? := by rw [List.getElem?_drop]
  rw [this, hashCells_drop9, List.getElem?_append_right (by simp; omega)]
  simp [hr]
/-- Behind a piece that leaves room. -/
theorem hash_lo {w : World} {g : Nat} {m piece rest : List UInt8} (hr : rest.length = 64) (ht : rest.take (m.length % 64) = m.drop (64 * (m.length / 64))) (hp : m.length % 64 + piece.length < 64)
    (hB : Blk w g 304 (hashCells true (blocksS m (m.length / 64)) (splice rest (m.length % 64) piece) (m.length + piece.length))) : HashIs w g (m ++ piece) := by
  have e1 : (m ++ piece).length = m.length + piece.length := List.length_append
  have e2 : (m.length + piece.length) % 64 = m.length % 64 + piece.length := by omega
  have e3 : (m.length + piece.length) / 64 = m.length / 64 := by omega
  refine ⟨splice rest (m.length % 64) piece, splice_len _ _ _ hr (by omega), ?_, ?_⟩
  · rw [e1, e2, e3]; exact rest_step m piece rest hr ht
  · rw [e1, e3, blocksS_app _ _ _ (by omega)]; exact hB
/-- Behind a piece that fills the block. -/
theorem hash_hi {w : World} {g : Nat} {m piece rest : List UInt8} (hr : rest.length = 64) (ht : rest.take (m.length % 64) = m.drop (64 * (m.length / 64))) (hp : m.length % 64 + piece.length = 64)
    (hB : Blk w g 304 (hashCells true (mixS (blocksS m (m.length / 64)) (splice rest (m.length % 64) piece)) (splice rest (m.length % 64) piece) (m.length + piece.length))) : HashIs w g (m ++ piece) := by
  have e1 : (m ++ piece).length = m.length + piece.length := List.length_append
  have e2 : (m.length + piece.length) % 64 = 0 := by omega
  have e3 : (m.length + piece.length) / 64 = m.length / 64 + 1 := by omega
  have hs := rest_step m piece rest hr ht
  have hl := splice_len rest piece (m.length % 64) hr (by omega)
  rw [hp, List.take_of_length_le (by omega)] at hs
  refine ⟨splice rest (m.length % 64) piece, hl, ?_, ?_⟩
  · rw [e1, e2, e3]
    rw [List.take_zero, List.drop_of_length_le (by rw [e1]; omega)]
  · rw [e1, e3, blocksS, blocksS_app _ _ _ (by omega), ← hs, List.take_of_length_le (by omega)]; exact hB
end Go.Proofs.YtamdhaoglapnnaaGreatDoor
end
section
/- The walk of Hash.Write. -/
namespace Go.Proofs.YtamdhaoglapnnaaGreatDoor
open Go.RowKit

def lenOf : Value → Nat | .slice _ n _ => n | _ => 0

theorem keys_ne {w : World} {g : Nat} {msg : List UInt8} (hK : KeysIn w) (hH : HashIs w g msg) : g ≠ 4 := by
  rintro rfl
  obtain ⟨r, _, _, h3⟩ := hH
  have h1 := hK 0 (by omega)
  rw [h3.cell] at h1
  simp [hashCells] at h1
theorem keys_grown {w w' : World} {g : Nat} (hK : KeysIn w) (hg : g ≠ 4) (h : w.grownBy w' (some g)) : KeysIn w' := fun i hi =>
  h.cell (hK i hi) (by simp; exact fun e => hg e.symm)

theorem setRow_grown (w : World) (n g : Nat) (c : Array Value) : w.grownBy ((w.drewN n).setRow g c) (some g) :=
  ⟨rfl, rfl, rfl, by simp, fun k _ hne => setRow_other _ _ _ _ (fun e => hne (by rw [e]))⟩
def WRel (w : World) (g : Nat) (msg xs : List UInt8) (b : Value) (wr : World) : Prop :=
  ∃ (done cap : Nat) (A : Option Addr), done ≤ xs.length ∧ b = .slice A (xs.length - done) cap ∧ xs.length - done ≤ cap ∧ Rd wr (· ≠ g) A ((xs.drop done).map B) ∧ HashIs wr g (msg ++ xs.take done) ∧ w.grownBy wr (some g)

theorem rd_grown {w w' : World} {g : Nat} {A : Option Addr} {xs : List Value} (h : Rd w (· ≠ g) A xs) (hg : w.grownBy w' (some g)) : Rd w' (· ≠ g) A xs := fun hn => by
  obtain ⟨ad, e, hb, hc⟩ := h hn
  refine ⟨ad, e, hb, fun j u hu => hg.cell (hc j u hu) ?_⟩
  rw [block_add]; simpa using hb
theorem grown_trans {w w1 w2 : World} {g : Nat} (h1 : w.grownBy w1 (some g)) (h2 : w1.grownBy w2 (some g)) : w.grownBy w2 (some g) :=
  ⟨h2.os.trans h1.os, h2.tape.trans h1.tape, h2.output.trans h1.output, Nat.le_trans h1.size h2.size, fun k hk hne => (h2.block k (Nat.lt_of_lt_of_le hk h1.size) hne).trans (h1.block k hk hne)⟩
theorem grown_setCell (w : World) (g i : Nat) (u : Value) : w.grownBy (w.setCell ⟨g, i, none⟩ u) (some g) :=
  ⟨rfl, rfl, rfl, by simp, fun _ _ hne => Below.heap_setCell _ _ _ _ (fun e => hne (by rw [e]))⟩
theorem grown_drewN (w : World) (g n : Nat) : w.grownBy (w.drewN n) (some g) := ⟨rfl, rfl, rfl, Nat.le_refl _, fun _ _ _ => rfl⟩
theorem wrel_step {w : World} {g : Nat} {msg xs : List UInt8} {done cap : Nat} {A : Option Addr} {wr W : World} {k : Nat} (hd : done + k ≤ xs.length) (hc : xs.length - done ≤ cap)
    (hR : Rd wr (· ≠ g) A ((xs.drop done).map B)) (hG : w.grownBy wr (some g)) (hG2 : wr.grownBy W (some g)) (hH : HashIs W g ((msg ++ xs.take done) ++ (xs.drop done).take k)) :
    WRel w g msg xs (.slice (cutA A cap k 1) (xs.length - done - k) (cap - k)) W := by
  refine ⟨done + k, cap - k, cutA A cap k 1, hd, by rw [Nat.sub_sub], by omega, ?_, ?_, grown_trans hG hG2⟩
  · have := rd_grown (hR.cutA (k := k) (cap := cap) (by simpa using hc)) hG2
    rwa [← List.map_drop, List.drop_drop] at this
  · rw [List.take_add, ← List.append_assoc]; exact hH

set_option maxRecDepth 100000 in
set_option maxHeartbeats 1000000 in
theorem write_any (g : Nat) (msg xs : List UInt8) (A : Option Addr) (cap : Nat) (w : World) (hH : HashIs w g msg) (hA : Rd w (· ≠ g) A (xs.map B)) (hcap : xs.length ≤ cap)
    (hn : msg.length + xs.length ≤ 4611686018427387904) (hK : KeysIn w) :
    Calls Tryz.prog 153 #[.pointer (some ⟨g, 0, none⟩), .slice A xs.length cap] w fun e w' =>
      e = .returned (.tuple #[]) ∧ HashIs w' g (msg ++ xs) ∧ w.grownBy w' (some g) := by
  have hne := keys_ne hK hH
  have hc0 : w.cell? ⟨g, 0, none⟩ = some (.bool true) := by
    obtain ⟨r, _, _, h3⟩ := hH
    rw [h3.cell]; rfl
  go_enter Tryz.func153, Tryz.ntmps153
  go_wp2
  clear hc0
  go_loopw [1] (fun b wr => WRel w g msg xs b wr) (fun b _ => lenOf b)
  case atStart => exact ⟨0, cap, A, by omega, rfl, by omega, hA, by simpa using hH, World.grownBy.refl w _⟩
  case round =>
    obtain ⟨done, cap', A', hd, rfl, hc', hR, hI, hG⟩ := hrel
    by_cases hlt : done < xs.length
    · obtain ⟨m, hm⟩ : ∃ m, m = msg ++ xs.take done := ⟨_, rfl⟩
      obtain ⟨ys, hys⟩ : ∃ ys, ys = xs.drop done := ⟨_, rfl⟩
      have hyl : ys.length = xs.length - done := by rw [hys, List.length_drop]
      have hmn : m.length + ys.length ≤ 4611686018427387904 := by rw [hm, hyl, List.length_append, List.length_take]; omega
      have hypos : 0 < ys.length := by omega
      rw [← hyl] at hc' ⊢
      rw [← hys] at hR
      rw [← hm] at hI
      replace hyl := Lib.hid hyl
      replace hm := Lib.hid hm
      replace hys := Lib.hid hys
      obtain ⟨rest, hr, ht, hB⟩ := hI
      obtain ⟨k, hk⟩ : ∃ k, k = min ys.length (64 - m.length % 64) := ⟨_, rfl⟩
      have hk0 : 0 < k := by omega
      have hk1 : k ≤ ys.length := by omega
      have hk2 : m.length % 64 + k ≤ 64 := by omega
      have hc73 : wr.cell? ⟨g, 73, none⟩ = some (.int .i64 (m.length : Int)) := by rw [hB.cell]; exact hashCells_73 _ _ _ _ hr
      obtain ⟨o, ho⟩ : ∃ o, o = m.length % 64 := ⟨_, rfl⟩
      have hoI : (m.length : Int) % 64 = (o : Int) := by omega
      have ho63 : o ≤ 63 := by omega
      rw [← ho] at hk hk2
      replace ho := Lib.hid ho
      obtain ⟨ad, rfl, hadg, hcell⟩ := hR (by simpa using hypos)
      have hsrc : ∀ j v, ((ys.take k).map B)[j]? = some v → wr.cell? (ad.add j) = some v := fun j v hv => hcell j v (by
        rw [List.map_take, List.getElem?_take] at hv
        split at hv
        · exact hv
        · cases hv)
      replace hcell := Lib.hid hcell
      replace hsrc := Lib.hid hsrc
      replace hr := Lib.hid hr
      replace ht := Lib.hid ht
      replace hk := Lib.hid hk
      go_wp2
      refine quiet_tail 10 (by kernel_rfl) (by kernel_rfl) ?_
      simp only [List.take_succ_cons, List.take_zero, List.drop_succ_cons, List.drop_zero]
      repeat (first
        | (refine wpQuiet_slice_lo 302 (.tmp 19) (.tmp 24) rfl rfl 5 64 Tryz.underlying302 (by kernel_rfl) g 9 o _ rfl rfl hoI (by omega) ?_
           go_frame)
        | go_big_quiet_step (fail))
      refine wpQuiet_nil ?_
      rintro _ ⟨nq, rfl⟩
      have hlk2 : ((ys.take k).map B).length = Nat.min ys.length (64 - o) := by
        rw [List.length_map, List.length_take, hk.out]; show min (min ys.length (64 - o)) ys.length = min ys.length (64 - o); omega
      refine wpList_copy_blk rfl (.tmp 25) (.tmp 26) 49 49 rfl 5 Tryz.underlying49 (by kernel_rfl) g (9 + o) (64 - o) (64 - o) ad ys.length cap' rfl rfl _ 304 (hB.drewN nq)
        ((ys.take k).map B) hlk2 hsrc.out (by rw [hashCells_len _ _ _ _ hr.out, List.length_map, List.length_take]; omega) (all_B _) ?_
      have hB2 : Blk ((wr.drewN nq).setRow g (splice (hashCells true (blocksS m (m.length / 64)) rest m.length) (9 + o) ((ys.take k).map B)).toArray) g 304 (hashCells true (blocksS m (m.length / 64)) (splice rest o (ys.take k)) m.length) := by
        rw [hashCells_rest _ _ _ _ _ _ hr.out (by rw [List.length_take]; omega)]; exact (hB.drewN nq).setRow_same _
      have hG2 : wr.grownBy ((wr.drewN nq).setRow g (splice (hashCells true (blocksS m (m.length / 64)) rest m.length) (9 + o) ((ys.take k).map B)).toArray) (some g) := setRow_grown _ _ _ _
      have hlk : ((ys.take k).map B).length = k := by rw [List.length_map, List.length_take]; omega
      rw [hlk]
      generalize (wr.drewN nq).setRow g _ = wr2 at hB2 hG2 ⊢
      clear hlk hlk2 hc73
      go_frame
      have hc73 : wr2.cell? ⟨g, 73, none⟩ = some (.int .i64 (m.length : Int)) := by rw [hB2.cell]; exact hashCells_73 _ _ _ _ (splice_len _ _ _ hr.out (by rw [List.length_take]; omega))
      have hf73 := hB2.frozen 73
      have hpl : (ys.take k).length = k := by rw [List.length_take]; omega
      replace hpl := Lib.hid hpl
      by_cases hz : (m.length + k) % 64 = 0
      · have hzb : (((m.length : Int) + (k : Int)) % 64 == 0) = true := by rw [beq_iff_eq]; omega
        replace hz := Lib.hid hz
        go_wp2_with (refine wpList_slice_from rfl 49 (.tmp 36) (.tmp 37) rfl 5 1 Tryz.underlying49 (by kernel_rfl) (some ad) ys.length cap' k rfl rfl hk1 ?_)
        have hB3 := hB2.set_ 73 (.int .i64 ((m.length : Int) + (k : Int)))
        rw [← Int.natCast_add, hashCells_n _ _ _ _ _ (splice_len _ _ _ hr.out (by rw [hpl.out]; omega))] at hB3
        rw [← Int.natCast_add]
        have hG3 := grown_trans hG2 (grown_setCell wr2 g 73 (.int .i64 ((m.length + k : Nat) : Int)))
        generalize wr2.setCell _ _ = wr3 at hB3 hG3 ⊢
        clear hc73 hf73 hB2 hG2 hzb
        obtain ⟨rest2, hrest2⟩ : ∃ r, r = splice rest o (ys.take k) := ⟨_, rfl⟩
        rw [← hrest2] at hB3
        have hl2 : rest2.length = 64 := by rw [hrest2]; exact splice_len _ _ _ hr.out (by rw [hpl.out]; omega)
        replace hl2 := Lib.hid hl2
        replace hrest2 := Lib.hid hrest2
        obtain ⟨st, hst⟩ : ∃ st, st = blocksS m (m.length / 64) := ⟨_, rfl⟩
        rw [← hst] at hB3
        replace hst := Lib.hid hst
        refine region_perm (C := fun w' => ∃ n, w' = wr3.drewN n) [0, 1, 2, 3, 5, 6, 7, 8] [4] 9 [10, 11, 12] (by kernel_rfl) (by kernel_rfl) (fun _ d _ _ _ h => by cases d <;> exact h) ⟨1, rfl⟩ ?_
        simp only [pickOps, List.map_cons, List.map_nil, nthOp_zero, nthOp_succ]
        repeat (go_big_quiet_step (fail))
        refine wpQuiet_nil ?_
        repeat (first
          | (refine wpQuiet_load_part 300 (.tmp 48) rfl rfl g 1 rfl 304 (hashCells true st rest2 (m.length + k)) st.cells (rest2.map B ++ [.int .i64 ((m.length + k : Nat) : Int)]) (fun w hw => ?_) rfl (.array 8 298) Tryz.underlying300 rfl (by kernel_rfl) ?_
             · obtain ⟨n, rfl⟩ := hw
               exact hB3.drewN n
             go_frame)
          | go_big_quiet_step (fail))
        refine wpQuiet_nil ?_
        rintro _ ⟨nq2, rfl⟩
        replace hB3 := hB3.drewN nq2
        replace hG3 := grown_trans hG3 (grown_drewN wr3 g nq2)
        generalize wr3.drewN nq2 = wr4 at hB3 hG3 ⊢
        have hK4 := keys_grown hK hne (grown_trans hG hG3)
        have hcs : ∀ i, i < 64 → wr4.cell? ⟨g, 9 + i, none⟩ = some (B (rest2.getD i 0)) := fun i hi => by
          have h1 : (hashCells true st rest2 (m.length + k))[9 + i]? = ((hashCells true st rest2 (m.length + k)).drop 9)[i]? := by rw [List.getElem?_drop]
          have h2 : i < rest2.length := by rw [hl2.out]; exact hi
          rw [hB3.cell, h1, hashCells_drop9, List.getElem?_append_left (by simpa using h2)]
          simp [h2]
        replace hcs := Lib.hid hcs
        have hfit : 1 + (mixS st rest2).cells.length ≤ (hashCells true st rest2 (m.length + k)).length := by rw [hashCells_len _ _ _ _ hl2.out]; exact (by decide : 1 + 8 ≤ 74)
        replace hfit := Lib.hid hfit
        go_wp2_with (first
          | (go_at_call 216; refine (mixed_any st g 9 64 rest2 _ hB3.lt hcs.out hK4).mono ?_; rintro e w5 ⟨rfl, hb5⟩)
          | (refine wpList_store_part rfl 300 (.tmp 56) (.tmp 54) rfl g 1 (mixS st rest2).cells rfl rfl 304 (hashCells true st rest2 (m.length + k)) (hB3.below hb5 hB3.lt) hfit.out (by kernel_rfl) (all_W _) ?_))
        go_frame
        go_roundw
        case rel =>
          have hB5 := hB3.below hb5 hB3.lt
          have hG5 : wr.grownBy (w5.setRow g (splice (hashCells true st rest2 (m.length + k)) 1 (mixS st rest2).cells).toArray) (some g) := grown_trans (grown_trans hG3 (grown_of_below hb5)) (setRow_grown w5 0 _ _)
          have hB6 := hB5.setRow_same (splice (hashCells true st rest2 (m.length + k)) 1 (mixS st rest2).cells)
          rw [hashCells_s] at hB6
          rw [hyl.out] at hc' ⊢
          rw [hys.out] at hR
          refine wrel_step (k := k) (done := done) (by have := hyl.out; omega) hc' hR hG hG5 ?_
          rw [← hys.out, ← hm.out]
          have hp := hpl.out
          have hz1 := hz.out
          have ho1 := ho.out
          refine hash_hi hr.out ht.out (by omega) ?_
          rw [hp, ← ho1, ← hrest2.out, ← hst.out]; exact hB6
        case measure => simp [lenOf]; omega
      · have hzb : (((m.length : Int) + (k : Int)) % 64 == 0) = false := by rw [beq_eq_false_iff_ne]; omega
        replace hz := Lib.hid hz
        go_wp2_with (refine wpList_slice_from rfl 49 (.tmp 36) (.tmp 37) rfl 5 1 Tryz.underlying49 (by kernel_rfl) (some ad) ys.length cap' k rfl rfl hk1 ?_)
        go_roundw
        case rel =>
          have hB3 := hB2.set_ 73 (.int .i64 ((m.length : Int) + (k : Int)))
          rw [← Int.natCast_add, hashCells_n _ _ _ _ _ (splice_len _ _ _ hr.out (by rw [hpl.out]; omega))] at hB3
          rw [← Int.natCast_add]
          rw [hyl.out] at hc' ⊢
          rw [hys.out] at hR
          refine wrel_step (k := k) (done := done) (by have := hyl.out; omega) hc' hR hG (grown_trans hG2 (grown_setCell _ _ _ _)) ?_
          rw [← hys.out, ← hm.out]
          have hp := hpl.out
          have hz1 := hz.out
          have ho1 := ho.out
          refine hash_lo hr.out ht.out (by omega) ?_
          rw [hp, ← ho1]; exact hB3
        case measure => simp [lenOf]; omega
    · obtain rfl : done = xs.length := by omega
      go_wp2
      go_end0
      refine ⟨rfl, by simpa using hI, hG⟩
end Go.Proofs.YtamdhaoglapnnaaGreatDoor
end
