/- The disk under the four calls that write the names, whatever else it holds, plainly. -/
import Derived.Test.YtamdhaoglapnnaaGreatDoorM35
import Derived.Test.YtamdhaoglapnnaaGreatDoorM34
section
namespace Go.Proofs.YtamdhaoglapnnaaGreatDoor
open Go.RowKit

structure Chain4 (S : DS) (t : Str) : Prop where
  e : chainE S (doCalls t) = 0
  a0 : Asked S
  a1 : Asked ((Call.write nextN t).turn S)
  a2 : Asked (Call.sync.turn ((Call.write nextN t).turn S))
  a3 : Asked ((Call.rename nextN fileN).turn (Call.sync.turn ((Call.write nextN t).turn S)))
theorem chain4 {S : DS} {n : Nat} (hi : Inv S n) (hn : n + 3 < 4398046511104) (ho : S.off = false) (hf : S.fuse = -1) {t : Str} (hx : fHas S.now nextN = false) (hroom : (fSum S.now : Int) + (t.length : Int) ≤ S.room) (hl : fLen S.now < 600) : Chain4 S t := by
  have i1 := hi.turn (Call.write nextN t)
  have i2 := i1.turn Call.sync
  have i3 := i2.turn (Call.rename nextN fileN)
  have e : (Call.write nextN t).err S = 0 := by
    show (if nameB nextN = true then (if fullB S nextN t = true then (14 : Int) else 0) else 11) = 0
    rw [if_pos (by decide), if_neg]
    unfold fullB
    rw [hx, fS_none hx]
    simp only [Bool.or_eq_true, decide_eq_true_eq, List.length_nil]
    simp
    omega
  have w1 : (Call.write nextN t).errno S = 0 := (live_err _ ho hf).trans e
  have t1 : (Call.write nextN t).turn S = S.does (.write nextN t) := by rw [live_turn _ ho hf, e]; rfl
  have o1 : (S.does (.write nextN t)).off = false := ho
  have f1 : (S.does (.write nextN t)).fuse = -1 := hf
  have w2 : Call.sync.errno (S.does (.write nextN t)) = 0 := live_err _ o1 f1
  have t2 : Call.sync.turn (S.does (.write nextN t)) = { S with now := fPut S.now nextN t, sure := fPut S.now nextN t, pend := [] } := by rw [live_turn _ o1 f1]; rfl
  obtain ⟨S2, hS2⟩ : ∃ S2 : DS, S2 = { S with now := fPut S.now nextN t, sure := fPut S.now nextN t, pend := [] } := ⟨_, rfl⟩
  have o2 : S2.off = false := by rw [hS2]; exact ho
  have f2 : S2.fuse = -1 := by rw [hS2]; exact hf
  have h2 : fHas S2.now nextN = true := by rw [hS2]; exact fHas_put_same hi.now
  have e3 : (Call.rename nextN fileN).err S2 = 0 := by
    show (if (nameB nextN && nameB fileN) = true then (if fHas S2.now nextN = true then (0 : Int) else 5) else 11) = 0
    rw [if_pos (by decide), if_pos h2]
  have w3 : (Call.rename nextN fileN).errno S2 = 0 := (live_err _ o2 f2).trans e3
  have t3 : (Call.rename nextN fileN).turn S2 = S2.does (.rename nextN fileN) := by rw [live_turn _ o2 f2, e3]; rfl
  have o3 : (S2.does (.rename nextN fileN)).off = false := o2
  have f3 : (S2.does (.rename nextN fileN)).fuse = -1 := f2
  have w4 : Call.sync.errno (S2.does (.rename nextN fileN)) = 0 := live_err _ o3 f3
  rw [t1] at i1 i2 i3
  rw [t2, ← hS2] at i2 i3
  rw [t3] at i3
  have hE : chainE S (doCalls t) = 0 := by
    unfold doCalls
    rw [chainE, if_pos w1, t1, chainE, if_pos w2, t2, ← hS2, chainE, if_pos w3, t3, chainE, if_pos w4]
    rfl
  refine ⟨hE, hi.asked (by omega), ?_, ?_, ?_⟩
  · rw [t1]; exact i1.asked (by omega)
  · rw [t1, t2, ← hS2]; exact i2.asked (by omega)
  · rw [t1, t2, ← hS2, t3]; exact i3.asked (by omega)
/-- A first file, written on a disk without any. -/
structure First (S : DS) (s t : Str) : Prop where
  e : (Call.write s t).errno S = 0
  asked : Asked S
  inv : Inv ((Call.write s t).turn S) 1
  off : ((Call.write s t).turn S).off = false
  fuse : ((Call.write s t).turn S).fuse = -1
  next : fHas ((Call.write s t).turn S).now nextN = false
  sum : fSum ((Call.write s t).turn S).now = t.length
  len : fLen ((Call.write s t).turn S).now = 1
  room : ((Call.write s t).turn S).room = S.room
theorem first_write {S : DS} (h : Live S none) {s t : Str} (hs : nameB s = true) (hne : s ≠ nextN) (hroom : (t.length : Int) ≤ S.room) : First S s t := by
  have ho := h.off
  have hf := h.fuse
  have hm := h.holds.map
  have hl : fLen S.now = 0 := h.holds.len
  have hsum : fSum S.now = 0 := h.holds.sum
  have hn : fHas S.now s = false := by
    cases hb : fHas S.now s with
    | false => rfl
    | true =>
      have := fLen_put (k := s) (t := t) hm
      have h1 := fLen_del (k := s) hm
      rw [hb] at h1
      simp at h1
      omega
  have e : (Call.write s t).err S = 0 := by
    show (if nameB s = true then (if fullB S s t = true then (14 : Int) else 0) else 11) = 0
    rw [if_pos hs, if_neg]
    unfold fullB
    rw [hn, fS_none hn]
    simp only [Bool.or_eq_true, decide_eq_true_eq, List.length_nil]
    simp
    omega
  have w1 : (Call.write s t).errno S = 0 := (live_err _ ho hf).trans e
  have t1 : (Call.write s t).turn S = S.does (.write s t) := by rw [live_turn _ ho hf, e]; rfl
  have n1 : (S.does (.write s t)).now = fPut S.now s t := by show fPut S.now s (cutT t 1) = _; rfl
  refine ⟨w1, h.inv.asked (by omega), h.inv.turn _, by rw [t1]; exact ho, by rw [t1]; exact hf, ?_, ?_, ?_, by rw [t1]; rfl⟩
  · rw [t1, n1, fHas_put_other (Ne.symm hne)]
    exact h.holds.next
  · rw [t1, n1]
    have := fSum_put hm s t
    rw [fS_none hn] at this
    simp at this
    omega
  · rw [t1, n1, fLen_put hm, hn]
    simp [hl]
end Go.Proofs.YtamdhaoglapnnaaGreatDoor
end
section
/- A repository: whether it is one, its names' heads, what is beneath nothing and beneath a first commit. -/
namespace Go.Proofs.YtamdhaoglapnnaaGreatDoor
open Go.RowKit

abbrev repoCells (l : Value) (by_ rb g : Nat) (a : Str) (br : Bool) : List Value := [l, .map (some by_), .pointer (some ⟨rb, 0, none⟩), .pointer (some ⟨g, 0, none⟩), .string ⟨a.toArray⟩, .bool br]
theorem rmade_any (r : Nat) (l : Value) (by_ rb g : Nat) (a : Str) (br : Bool) (w : World) (h : Blk w r 104 (repoCells l by_ rb g a br)) :
    Calls Tryz.prog 130 #[.pointer (some ⟨r, 0, none⟩)] w fun e w' => e = .returned (.bool true) ∧ w' = w := by
  have c2 : w.cell? ⟨r, 2, none⟩ = some (.pointer (some ⟨rb, 0, none⟩)) := h.cell 2
  clear h
  go_enter Tryz.func130, Tryz.ntmps130
  go_wp2
  go_ret
  exact ⟨rfl, rfl⟩
theorem flat_next {T : Tab} {m : Nat} (h : m < T.length) : (T.take (m + 1)).flatMap (·.heads) = (T.take m).flatMap (·.heads) ++ T[m].heads := by
  have e : T.take (m + 1) = T.take m ++ [T[m]] := by rw [List.take_add_one, List.getElem?_eq_getElem h]; rfl
  rw [e, List.flatMap_append]
  simp
theorem hCells_app (a b : List Str) : hCells (a ++ b) = hCells a ++ hCells b := List.flatMap_append
set_option maxRecDepth 100000 in
set_option maxHeartbeats 4000000 in
theorem rheads_all (T : Tab) (v : Value) (ok : Nat → Prop) (w : World) (h : TabIs w ok v T) (hf : TFit T) (ht : tOk T) (hl : (T.flatMap (·.heads)).length ≤ 1000) :
    Calls Tryz.prog 60 #[v] w fun e w' => ∃ V, e = .returned V ∧ w'.ownsRow w.heap.size 115 32 V (T.flatMap (·.heads)).length (hCells (T.flatMap (·.heads))) ∧ Below w.heap.size w w' := by
  obtain ⟨TA, tc, rfl, _⟩ := h.form
  have hTl := hf.len
  obtain ⟨ys, hys⟩ : ∃ ys, ys = T.flatMap (·.heads) := ⟨_, rfl⟩
  rw [← hys] at hl ⊢
  replace hys := Lib.hid hys
  replace h := Lib.hid h
  go_enter Tryz.func60, Tryz.ntmps60
  go_wp2_with fail
  go_loopw [3, 8] (fun b i wr => ∃ m : Nat, m ≤ T.length ∧ i = .int .i64 m ∧ wr.ownsRow w.heap.size 115 32 b ((T.take m).flatMap (·.heads)).length (hCells ((T.take m).flatMap (·.heads))) ∧ Below w.heap.size w wr) (fun _ i _ => T.length - (intOf i).toNat)
  case atStart => exact ⟨0, Nat.zero_le _, rfl, ⟨rfl, .inl ⟨rfl, rfl⟩⟩, Below.refl _ _⟩
  case round =>
    obtain ⟨m, hm, rfl, hrow, hbr⟩ := hrel
    by_cases hlt : m < T.length
    · obtain ⟨xs, hxs⟩ : ∃ xs, xs = (T.take m).flatMap (·.heads) := ⟨_, rfl⟩
      have hfl := Lib.hid (flat_next hlt)
      have hxl : xs.length + T[m].heads.length ≤ 1000 := by
        have h1 : (T.take (m + 1)).flatMap (·.heads) ++ (T.drop (m + 1)).flatMap (·.heads) = T.flatMap (·.heads) := by rw [← List.flatMap_append, List.take_append_drop]
        have h2 := congrArg List.length h1
        rw [List.length_append, flat_next hlt, List.length_append, ← hxs, ← hys.out] at h2
        omega
      rw [← hxs] at hrow hfl
      have hr := h.out.stayB hbr
      obtain ⟨b, o, u, rfl, _, hbl, hu, c0, c1⟩ := hr.br m hlt
      obtain ⟨UA, uc, rfl, huc, hur⟩ := hu
      have hhd : hOk T[m].heads := ht _ (List.getElem_mem hlt)
      have hcl := hCells_len hhd
      obtain ⟨hs, hhs⟩ : ∃ hs, hs = T[m].heads := ⟨_, rfl⟩
      obtain ⟨nm, hnm⟩ : ∃ nm, nm = T[m].name := ⟨_, rfl⟩
      rw [← hhs] at hur c1 hfl hcl hxl
      rw [← hnm] at c0
      unfold strV at c0
      obtain ⟨FA, fc, rfl, _, _⟩ := own_form hrow
      have i1 : (0 : Int) ≤ (m : Int) := by omega
      have i2 : (m : Int) < (T.length : Int) := by omega
      replace hrow := Lib.hid hrow
      replace hbr := Lib.hid hbr
      replace hxs := Lib.hid hxs
      replace hhs := Lib.hid hhs
      replace hnm := Lib.hid hnm
      have hur' := Lib.hid (hur.stayB ((Below.refl wr.heap.size wr).alloc (Nat.le_refl _) (.cells #[.string ⟨nm.toArray⟩, .slice UA hs.length uc] 138)))
      have hsz := hbr.out.size
      clear hr hur huc h
      go_wp2_with (at_builtin; refine wpList_append_rd _ rfl (.tmp 12) (.tmp 14) 108 rfl w.heap.size 115 (.agg zero32.toArray) 32 32 Tryz.underlying108 digInfo (.slice FA xs.length fc) xs.length (hCells xs) rfl (hrow.out.alloc _) _ UA hs.length uc (hCells hs) rfl hcl hur'.out (hCells_one _) (by unfold maxLen; omega) (by omega) (by simp; omega) ?_; intro v4 W4 hrow4 hg4 hv4; replace hrow4 := Lib.hid hrow4; replace hg4 := Lib.hid hg4; clear hv4; obtain ⟨VA, vc, rfl, _, _⟩ := own_form hrow4.out; go_frame)
      refine ⟨⟨m + 1, by omega, by go_num, ?_, ?_⟩, by simp [intOf]; omega⟩
      · rw [hfl.out, hCells_app, List.length_append]
        exact hrow4.out
      · exact (hbr.out.alloc hsz _).trans (own_below (hrow.out.alloc _) hg4.out (by simp; omega))
    · have hmt : m = T.length := by omega
      subst hmt
      rw [List.take_length, ← hys.out] at hrow
      obtain ⟨FA, fc, rfl, _, _⟩ := own_form hrow
      go_wp2_with fail
      go_returns
      exact ⟨_, rfl, hrow, hbr⟩
end Go.Proofs.YtamdhaoglapnnaaGreatDoor
end
section
/- What stands beneath some heads, of what a repository knows: of nothing, and of a first commit. -/
namespace Go.Proofs.YtamdhaoglapnnaaGreatDoor
open Go.RowKit

theorem rev_none (w : World) : Calls Tryz.prog 103 #[nilS] w fun e w' => e = .returned (.tuple #[]) ∧ Below w.heap.size w w' := by
  go_enter Tryz.func103, Tryz.ntmps103
  go_wp2_with fail
  refine wp_loop_rounds 1 ?_
  rw [rounds_succ]
  go_wp2_with fail
  exact bodyPost_end (v := .tuple #[]) (results_none (by rfl) _ _ _) rfl ⟨rfl, Below.refl _ _⟩
theorem rev_one (A : Option Addr) (c : Nat) (w : World) : Calls Tryz.prog 103 #[.slice A 1 c] w fun e w' => e = .returned (.tuple #[]) ∧ Below w.heap.size w w' := by
  go_enter Tryz.func103, Tryz.ntmps103
  go_wp2_with fail
  refine wp_loop_rounds 1 ?_
  rw [rounds_succ]
  go_wp2_with fail
  exact bodyPost_end (v := .tuple #[]) (results_none (by rfl) _ _ _) rfl ⟨rfl, Below.refl _ _⟩
set_option maxRecDepth 100000 in
set_option maxHeartbeats 4000000 in
theorem kbeneath_nil (r : Nat) (A : Option Addr) (c : Nat) (w : World) (c0 : w.cell? ⟨r, 0, none⟩ = some nilS) :
    Calls Tryz.prog 59 #[.pointer (some ⟨r, 0, none⟩), .slice A 0 c] w fun e w' => e = .returned (.tuple #[nilS, .bool true]) ∧ Below w.heap.size w w' := by
  have hmk := mkB0
  have a0 : ∀ o, (w.alloc o).cell? ⟨r, 0, none⟩ = some nilS := fun o => (((Below.refl w.heap.size w).alloc (Nat.le_refl _) o).cell (p := ⟨r, 0, none⟩) (World.block_lt_of_cell? _ _ c0)).trans c0
  go_enter Tryz.func59, Tryz.ntmps59
  go_wp2_with fail
  refine wp_loop_rounds 1 ?_
  rw [rounds_succ]
  go_wp2_with fail
  refine wp_loop_rounds 1 ?_
  rw [rounds_succ]
  go_wp2_with fail
  refine (rev_none _).mono ?_
  rintro e W ⟨rfl, hb⟩
  have hbf := ((Below.refl _ _).alloc (Nat.le_refl w.heap.size) (.cells #[] 4)).trans (hb.mono (by simp))
  go_wp2_with fail
  go_returns
  exact ⟨rfl, hbf⟩
theorem infoCm : InfoOf Tryz.prog 155 (.agg #[nilS, .string ⟨#[]⟩, .string ⟨#[]⟩, nilS]) 4 80 := ⟨by kernel_rfl, rfl, by omega⟩
set_option maxRecDepth 100000 in
set_option maxHeartbeats 8000000 in
theorem kbeneath_one (ds a : Str) (hdl : ds.length = 32) (OA : Option Addr) (on oc r by_ lb lc ib ic : Nat) (rest ri : List Value) (w : World) (c0 : w.cell? ⟨r, 0, none⟩ = some (.slice (some ⟨lb, 0, none⟩) 1 lc)) (c1 : w.cell? ⟨r, 1, none⟩ = some (.map (some by_)))
    (hM : MapV w by_ [(.agg (ds.map B).toArray, .int .i64 0)]) (hL : Blk w lb 155 (comL a (.slice OA on oc) ++ rest)) (hI : Blk w ib 115 (ds.map B ++ ri)) :
    Calls Tryz.prog 59 #[.pointer (some ⟨r, 0, none⟩), .slice (some ⟨ib, 0, none⟩) 1 ic] w fun e w' => ∃ ob ocp rs, e = .returned (.tuple #[.slice (some ⟨ob, 0, none⟩) 1 ocp, .bool true]) ∧ Blk w' ob 155 (comL a (.slice OA on oc) ++ rs) ∧ w.heap.size ≤ ob ∧ Below w.heap.size w w' := by
  have hmk := mkB1
  have hrl := World.block_lt_of_cell? _ _ c0
  go_enter Tryz.func59, Tryz.ntmps59
  go_wp2_with fail
  generalize hW1 : World.alloc w (Obj.cells _ 4) = w1
  have hb1 : Below w.heap.size w w1 := by rw [← hW1]; exact (Below.refl _ _).alloc (Nat.le_refl _) _
  have hS1 : Blk w1 w.heap.size 4 [.bool false] := by rw [← hW1]; exact Blk.new_at (cs := [.bool false]) rfl
  clear hW1 hmk
  have hL1 := Lib.hid (hL.below hb1 hL.lt)
  have hI1 := Lib.hid (hI.below hb1 hI.lt)
  have hM1 := Lib.hid (hM.below hb1 hM.lt)
  have d0 := (hb1.cell (p := ⟨r, 0, none⟩) hrl).trans c0
  have d1 := (hb1.cell (p := ⟨r, 1, none⟩) hrl).trans c1
  replace d0 := Lib.hid d0
  replace d1 := Lib.hid d1
  replace hb1 := Lib.hid hb1
  replace hS1 := Lib.hid hS1
  clear hL hI hM c0 c1
  refine wp_loop_rounds 2 ?_
  rw [rounds_succ]
  go_wp2_with (first
    | (refine wpList_load_part rfl 115 (.tmp 25) rfl ib 0 rfl 115 (ds.map B ++ ri) (ds.map B) ri hI1.out (by simp) _ Tryz.underlying115 rfl (digSz hdl) ?_)
    | (refine wpList_store_blk rfl 115 (.tmp 8) (.tmp 26) rfl w1.heap.size (ds.map B) rfl rfl 115 zero32 (Blk.new_at rfl) (by simp [hdl, zero32]) (digSz hdl) (all_B _) ?_
       generalize hw1 : World.setRow _ w1.heap.size (ds.map B).toArray = w4
       have hD4 : Blk w4 w1.heap.size 115 (ds.map B) := by
         rw [← hw1]
         exact (Blk.new_at (w := w1) (t := 115) (cs := zero32) rfl).setRow_same (ds.map B)
       have hb4 : Below w1.heap.size w1 w4 := by
         rw [← hw1]
         exact below_setRow ((Below.refl w1.heap.size w1).alloc (Nat.le_refl _) (.cells zero32.toArray 115)) (Nat.le_refl _) (ds.map B).toArray
       clear hw1
       go_frame)
    | fail)
  have hM4 := hM1.out.below hb4 hM1.out.lt
  have hL4 := Lib.hid (hL1.out.below hb4 hL1.out.lt)
  have hS4 := Lib.hid (hS1.out.below hb4 hS1.out.lt)
  have hrl1 : r < w1.heap.size := Nat.lt_of_lt_of_le hrl hb1.out.size
  have e0 := Lib.hid ((hb4.cell (p := ⟨r, 0, none⟩) hrl1).trans d0.out)
  have e1 : w4.cell? ⟨r, 1, none⟩ = some (.map (some by_)) := (hb4.cell (p := ⟨r, 1, none⟩) hrl1).trans d1.out
  have hb4' := Lib.hid (hb1.out.trans (hb4.mono hb1.out.size))
  have hD5 : Hid (∀ w', (∃ n, w' = w4.drewN n) → Blk w' w1.heap.size 115 (ds.map B)) := Lib.hid (by rintro _ ⟨n, rfl⟩; exact hD4.drewN n)
  have hrun : Hid (∀ w', (∃ n, w' = w4.drewN n) → (Instr.lookup 99 (.map (some by_)) (.agg (ds.map B).toArray) true).run Tryz.prog w' = .ok (.tuple #[.int .i64 0, .bool true]) w') := Lib.hid (by
    rintro _ ⟨n, rfl⟩
    have hM5 : MapV (w4.drewN n) by_ _ := hM4.block rfl
    exact hM5.look_some digKeys Tryz.underlying99 (by simpa using B_digK ds hdl) (B_digK ds hdl) (List.mem_singleton.2 rfl) (by simp) true)
  clear hM1 hL1 hS1 hI1 hb4 hD4 hM4 d0 d1 hb1
  refine wp_region_quiet_lit (by kernel_rfl) (by kernel_rfl) ?_
  repeat (first
    | go_big_quiet_step (fail)
    | (refine wpQuiet_load_part 115 (.tmp 8) rfl rfl w1.heap.size 0 rfl 115 (ds.map B) (ds.map B) [] hD5.out (by simp) _ Tryz.underlying115 rfl (digSz hdl) ?_; go_frame)
    | (refine wpQuiet_run (.lookup 99 (.tmp 31) (.tmp 32) true) rfl rfl (.tuple #[.int .i64 0, .bool true]) (fun w' hw' => exec_lookup 99 (.tmp 31) (.tmp 32) true rfl _ _ _ rfl rfl (hrun.out w' hw')) ?_; go_frame))
  refine wpQuiet_nil ?_
  rintro _ ⟨nq, rfl⟩
  have hS5 := hS4.out.drewN nq
  have s0 : (w4.drewN nq).cell? ⟨w.heap.size, 0, none⟩ = some (.bool false) := hS5.cell 0
  have sf := hS5.frozen 0
  have i0 : (0 : Int) < ((1 : Nat) : Int) := by omega
  have hrne : r ≠ w.heap.size := by omega
  have hws4 := hb4'.out.size
  have hL6 := (hL4.out.drewN nq).far (p := ⟨w.heap.size, 0, none⟩) ((hL4.out.drewN nq).ne_ hS5 (by decide)) (.bool true)
  have hS6 := hS5.set_ 0 (.bool true)
  have e06 : ((w4.drewN nq).setCell ⟨w.heap.size, 0, none⟩ (.bool true)).cell? ⟨r, 0, none⟩ = some (.slice (some ⟨lb, 0, none⟩) 1 lc) := (World.cell?_setCell_far _ _ _ _ (fun e => hrne e.symm)).trans e0.out
  have hb6 : Below w.heap.size w ((w4.drewN nq).setCell ⟨w.heap.size, 0, none⟩ (.bool true)) := (hb4'.out.trans ((Touch.drewN (L := []) nq).below hws4 (fun _ hi => by cases hi))).setCell (Nat.le_refl _) _
  clear hrun hD5 e1
  go_wp2_with fail
  rw [rounds_succ]
  generalize World.setCell (w4.drewN nq) _ _ = w6 at hL6 hS6 e06 hb6 ⊢
  have s6 : w6.cell? ⟨w.heap.size, 0, none⟩ = some (.bool true) := hS6.cell 0
  have l0 : w6.cell? ⟨lb, 0, none⟩ = some nilS := hL6.cell 0
  have l1 : w6.cell? ⟨lb, 1, none⟩ = some (.string ⟨a.toArray⟩) := hL6.cell 1
  have l2 : w6.cell? ⟨lb, 2, none⟩ = some (.string ⟨#[]⟩) := hL6.cell 2
  have l3 : w6.cell? ⟨lb, 3, none⟩ = some (.slice OA on oc) := hL6.cell 3
  have hrl6 : r < w6.heap.size := World.block_lt_of_cell? _ _ e06
  have hws6 := hb6.size
  clear s0 sf hS5 hS6 e0
  replace hb6 := Lib.hid hb6
  replace hL6 := Lib.hid hL6
  go_wp2_with fail
  refine wp_loop_rounds 2 ?_
  rw [rounds_succ]
  go_wp2_with (at_builtin; refine wpList_append_rd _ rfl (.tmp 57) (.tmp 65) 100 rfl w6.heap.size 155 _ 4 80 Tryz.underlying100 infoCm nilS 0 [] rfl ⟨rfl, .inl ⟨rfl, rfl⟩⟩ (fun _ => True) (some ⟨w6.heap.size, 0, none⟩) 1 1 (comL a (.slice OA on oc)) rfl rfl (Rd.of_blk (cs := comL a (.slice OA on oc)) (r := []) (Blk.new_at rfl) rfl trivial) (by simp [comL, Value.oneCell']) (by unfold maxLen; omega) (by omega) (by simp) ?_; intro v7 w7 hrow7 hg7 hv7; obtain ⟨ob, ocp, rs, rfl, hob, hO7⟩ := own_one hrow7; have hb7 : Below w6.heap.size w6 w7 := ((Below.refl _ _).alloc (Nat.le_refl _) _).trans (own_below (v := nilS) (n := 0) (xs := []) (e := 155) (size := 4) ⟨rfl, .inl ⟨rfl, rfl⟩⟩ hg7 (by simp)); have e07 : w7.cell? ⟨r, 0, none⟩ = some (.slice (some ⟨lb, 0, none⟩) 1 lc) := (hb7.cell (p := ⟨r, 0, none⟩) hrl6).trans e06; have l07 : w7.cell? ⟨lb, 0, none⟩ = some nilS := (hb7.cell (p := ⟨lb, 0, none⟩) hL6.out.lt).trans l0; have hb7' := Lib.hid (hb6.out.trans (hb7.mono hws6)); replace hO7 := Lib.hid hO7; clear hrow7 hg7 hv7 hb7; go_frame)
  refine wp_loop_rounds 1 ?_
  rw [rounds_succ]
  go_wp2_with fail
  rw [rounds_succ]
  go_wp2_with fail
  refine (rev_one _ _ _).mono ?_
  rintro e w8 ⟨rfl, hb8⟩
  have hO8 := hO7.out.below hb8 hO7.out.lt
  have hb8' := hb7'.out.trans (hb8.mono hb7'.out.size)
  go_wp2_with fail
  go_returns
  exact ⟨ob, ocp, rs, rfl, hO8, by omega, hb8'⟩
end Go.Proofs.YtamdhaoglapnnaaGreatDoor
end
