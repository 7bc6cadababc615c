/- A desk that plays the text of 'alive'. -/
import Derived.Test.YtamdhaoglapnnaaGreatDoorM45
import Derived.RegionTactic
import Derived.ChangeAlike
import Derived.Lib.UnsafeStr
section
namespace Go.Proofs.YtamdhaoglapnnaaGreatDoor
open Go.RowKit Go.Shelf
attribute [local go_sem] Oper.semAt_some

def lnN : Nat → Str
  | 0 => ln1
  | 1 => ln2
  | 2 => ln3
  | _ => ln4
def ansL : Nat → Str
  | 0 => idL
  | 1 => txtL
  | 2 => errS 5
  | _ => errS 7
theorem idL_len : idL.length = 67 := by
  unfold idL
  rw [List.length_append, hexOf_length, idT_len]
  rfl
theorem txtL_len : txtL.length = 11 := by decide +kernel
theorem err5_len : (errS 5).length = 7 := by decide +kernel
theorem err7_len : (errS 7).length = 7 := by decide +kernel
theorem ansL_len (j : Nat) : (ansL j).length ≤ 100 := by
  have h1 := idL_len
  have h2 := txtL_len
  have h3 := err5_len
  have h4 := err7_len
  unfold ansL
  split <;> omega
theorem outL_len (j : Nat) : (outL j).length ≤ 500 := by
  have h1 := idL_len
  have h2 := txtL_len
  have h3 := err5_len
  have h4 := err7_len
  unfold outL
  split <;> simp only [List.length_append, List.length_nil, List.length_cons] <;> omega
theorem outL_succ (j : Nat) (hj : j < 4) : outL (j + 1) = outL j ++ (ansL j ++ [10]) := by
  have : j = 0 ∨ j = 1 ∨ j = 2 ∨ j = 3 := by omega
  rcases this with rfl | rfl | rfl | rfl <;> rfl
theorem line_of {j : Nat} {x : Str} {rst : List Str} (hj : j ≤ 4) (h : alLines = alLines.take j ++ x :: rst) : j < 4 ∧ x = lnN j ++ [10] ∧ alLines.take j ++ [x] = alLines.take (j + 1) := by
  have : j = 0 ∨ j = 1 ∨ j = 2 ∨ j = 3 ∨ j = 4 := by omega
  rcases this with rfl | rfl | rfl | rfl | rfl
  · simp only [alLines, List.take_zero, List.nil_append, List.cons.injEq] at h
    exact ⟨by omega, h.1.symm, by rw [← h.1]; rfl⟩
  · simp only [alLines, List.take_succ_cons, List.take_zero, List.cons_append, List.nil_append, List.cons.injEq, true_and] at h
    exact ⟨by omega, h.1.symm, by rw [← h.1]; rfl⟩
  · simp only [alLines, List.take_succ_cons, List.take_zero, List.cons_append, List.nil_append, List.cons.injEq, true_and] at h
    exact ⟨by omega, h.1.symm, by rw [← h.1]; rfl⟩
  · simp only [alLines, List.take_succ_cons, List.take_zero, List.cons_append, List.nil_append, List.cons.injEq, true_and] at h
    exact ⟨by omega, h.1.symm, by rw [← h.1]; rfl⟩
  · have := congrArg List.length h
    simp [alLines] at this
theorem trimN {j : Nat} (hj : j < 4) : Lib.trimSuffix (lnN j ++ [10]) [10] = lnN j := by
  have : j = 0 ∨ j = 1 ∨ j = 2 ∨ j = 3 := by omega
  rcases this with rfl | rfl | rfl | rfl <;> exact trim_ln _ (by simp [lnN])
/-- One line of the play. -/
theorem line_step {w0 : World} {base g rb d r by_ : Nat} {v : Value} {p0 b j : Nat} {W W1 : World} (hj : j < 4) (hb0 : base ≤ w0.heap.size) (hr : base ≤ r) (hky : ∀ W, Below base w0 W → DeskIn W) (hI : PlayI w0 base g rb d r by_ v p0 b j W) (hd : Below W.heap.size W W1) :
    Calls Tryz.prog 13 #[.pointer (some ⟨d, 0, none⟩), strV (lnN j)] W1 fun e W' => e = .returned (strV (ansL j)) ∧ KeepsR W W' ∧ OneV mainS annS abS r W' ∧ Below base w0 W' := by
  have hD1 := hI.desk.below hd hI.desk.lt
  have hbW : base ≤ W.heap.size := Nat.le_trans hb0 hI.bel.size
  have hb1 := hI.bel.trans (hd.mono hbW)
  have hI1 := hky _ hb1
  have hbW1 : base ≤ W1.heap.size := Nat.le_trans hbW hd.size
  have : j = 0 ∨ j = 1 ∨ j = 2 ∨ j = 3 := by omega
  rcases this with rfl | rfl | rfl | rfl
  · obtain ⟨hR, hRef⟩ := hI.st0 rfl
    refine (line1_any hb0 (hRef.below hd) d r by_ (hR.below hd hR.lt) hr hD1 hky).mono ?_
    rintro e w' ⟨he, hk, ho, hb⟩
    exact ⟨he, (KeepsR.below hd).trans hk, ho, hb⟩
  · have hV := (hI.st1 (by omega)).below hd
    refine (line2_any hD1 hI1 hV).mono ?_
    rintro e w' ⟨he, hb⟩
    exact ⟨he, (KeepsR.below hd).trans (KeepsR.below hb), hV.below hb, hb1.trans (hb.mono hbW1)⟩
  · have hV := (hI.st1 (by omega)).below hd
    refine (line3_any hD1 hI1 hV).mono ?_
    rintro e w' ⟨he, hb⟩
    exact ⟨he, (KeepsR.below hd).trans (KeepsR.below hb), hV.below hb, hb1.trans (hb.mono hbW1)⟩
  · have hV := (hI.st1 (by omega)).below hd
    refine (line4_any hD1 hI1).mono ?_
    rintro e w' ⟨he, hb⟩
    exact ⟨he, (KeepsR.below hd).trans (KeepsR.below hb), hV.below hb, hb1.trans (hb.mono hbW1)⟩
/-- Behind the writing of a line's answer. -/
theorem play_next {w0 : World} {base g rb d r by_ : Nat} {v : Value} {p0 b j : Nat} {W W' W2 : World} (hj : j < 4) (hbb : base ≤ b) (hI : PlayI w0 base g rb d r by_ v p0 b j W) (hk : KeepsR W W') (hV : OneV mainS annS abS r W') (hb : Below base w0 W') (hB : BIs b b (outL j ++ (ansL j ++ [10])) W2) (hb2 : Below b W' W2) (ht : KeepTag W' W2) : PlayI w0 base g rb d r by_ v p0 b (j + 1) W2 :=
  ⟨hb.trans (hb2.mono hbb), by
    rcases hB with h | h
    · obtain ⟨_, v, hbk, _⟩ := h
      exact lt_of_heap hbk
    · obtain ⟨_, v, hbk, _⟩ := h
      exact lt_of_heap hbk, ht.blk _ _ _ (hk.blk _ _ _ hI.box (by decide) (by decide) (by decide) (by decide)) (by decide) (by decide), by rw [outL_succ j hj]; exact hB,
   ht.blk _ _ _ (hk.blk _ _ _ hI.desk (by decide) (by decide) (by decide) (by decide)) (by decide) (by decide), fun h => by omega, fun _ => hV.stayT (StayB.tag ht) (by decide)⟩
theorem alive_text : aliveS.length = 45 := by decide +kernel
theorem out_len : (outL 4).length = 96 := by
  have h1 := idL_len
  have h2 := txtL_len
  have h3 := err5_len
  have h4 := err7_len
  simp only [outL, List.length_append, List.length_nil, List.length_cons]
  omega
theorem freeze_other (w : World) (g n k : Nat) (h : k ≠ g) : (w.freeze ⟨g, 0, none⟩ n).heap[k]? = w.heap[k]? := by
  unfold World.freeze
  split
  · rfl
  · simp only [Array.getElem?_modify]
    rw [if_neg (fun e => h e.symm)]
set_option maxHeartbeats 1000000 in
set_option maxRecDepth 100000 in
/-- A builder's text: the records of statements lie as they lay. -/
theorem bstr_marks (b : Nat) (l : Str) (w : World) (h : BIs b b l w) (h0 : l ≠ []) :
    Calls Tryz.prog 25 #[.pointer (some ⟨b, 0, none⟩)] w fun e w' => e = .returned (.string ⟨l.toArray⟩) ∧ Below b w w' ∧ KeepM w w' := by
  obtain ⟨p, hB, v, hbk, hown, hne⟩ : ∃ p, Lib.BuilderAt 51 5 b b p (Lib.byteCells l) w := by
    rcases h with h | h
    · exact ⟨_, h⟩
    · exact ⟨_, h⟩
  have hl0 : l.length ≠ 0 := by simpa using h0
  rw [Lib.byteCells_length] at hown
  obtain ⟨g, cap, cur, rfl, hbg, hg, hnc, hcm, hcs, htake⟩ : ∃ g cap cur, v = .slice (some ⟨g, 0, none⟩) l.length cap ∧ b ≤ g ∧ w.heap[g]? = some (.cells cur 5 (0, 0)) ∧ l.length ≤ cap ∧ cap ≤ maxLen ∧ cur.size = cap * 1 ∧ cur.toList.take (l.length * 1) = Lib.byteCells l := by
    rcases hown.2 with ⟨_, hz⟩ | ⟨g, cap, cur, hv, r⟩
    · exact absurd hz hl0
    · exact ⟨g, cap, cur, hv, r⟩
  have c1 : w.drew.cell? ⟨b, 1, none⟩ = some (.slice (some ⟨g, 0, none⟩) l.length cap) := by
    have : w.drew.heap[b]? = some (.cells #[p, .slice (some ⟨g, 0, none⟩) l.length cap] 51 (0, 0)) := hbk
    rw [Lib.cell_of_heap this]; rfl
  have hSD : (Builtin.unsafeSliceData_ #[49] 78 #[.slice (some ⟨g, 0, none⟩) l.length cap]).run Tryz.prog w.drew = .ok (.pointer (some ⟨g, 0, none⟩)) w.drew :=
    Lib.run_unsafeSliceData_row _ _ _ _ _ _ (by omega)
  have hUS : (Builtin.unsafeString_ #[78, 3] 9 #[.pointer (some ⟨g, 0, none⟩), .int .i64 l.length]).run Tryz.prog w.drew = .ok (.string ⟨l.toArray⟩) (w.drew.freeze ⟨g, 0, none⟩ l.length) := by
    refine Lib.run_unsafeString_row w.drew 78 3 9 5 Tryz.underlying78 (by kernel_rfl) g cur.size (by have hg' : w.drew.heap[g]? = some (.cells cur 5 (0, 0)) := hg; simp [World.shape?, hg']) l h0 (by omega) (by unfold maxLen at hcm; omega) ?_
    intro j x hx
    have := hown.cells (g := g) rfl j (.int .u8 x.toNat) (by simp [Lib.byteCells, hx])
    exact this
  have hfin : Hid (Below b w (w.drew.freeze ⟨g, 0, none⟩ l.length) ∧ KeepM w (w.drew.freeze ⟨g, 0, none⟩ l.length)) := Lib.hid ⟨Lib.below_freeze (Below.drew (Below.refl b w)) (p := ⟨g, 0, none⟩) hbg _, ⟨fun k o ho hm => by
    have hk : k ≠ g := fun e => by
      subst e
      rw [hg] at ho
      cases ho
      cases hm
    exact (freeze_other w.drew g _ k hk).trans ho⟩⟩
  clear h hown hbk hg htake hcs hne
  go_enter Tryz.func25, Tryz.ntmps25
  go_wp2_with fail
  go_region
  all_goals
    go_wp2_with fail
    go_ret
    exact ⟨rfl, hfin.out⟩
set_option maxRecDepth 100000 in
set_option maxHeartbeats 16000000 in
theorem play_any {w0 : World} {base g rb : Nat} {v : Value} {w : World} (s : Str) (hsl : s.length = 45) (hls : linesOf s = alLines) (hb0 : base ≤ w0.heap.size) (h : Ref w0 base rb g v (DS.new 16777216) [] w) (d r by_ : Nat) (hR : Blk w r 104 (repoCells nilS by_ rb g annS false)) (hr : base ≤ r) (hD : Blk w d 36 (deskCells r g annS)) (hky : ∀ W, Below base w0 W → DeskIn W) :
    Calls Tryz.prog 14 #[.pointer (some ⟨d, 0, none⟩), strV s] w fun e w' => e = .returned (strV (outL 4)) ∧ Below base w0 w' := by
  have hlf : Hid (∀ w, Calls Tryz.prog 28 #[.string ⟨s.toArray⟩] w fun e w' => e = .returned (.func (.func 49) #[] #[.pointer (some ⟨w.heap.size, 0, none⟩)]) ∧ w' = w.alloc (.cells #[.string ⟨s.toArray⟩] 9)) := Lib.hid (linesF_any s)
  have hsz : (⟨s.toArray⟩ : ByteArray).size = s.length := strLn s
  have hbs := h.size
  generalize hW1 : (w.alloc (.cells #[.pointer (some ⟨d, 0, none⟩)] 32)) = w1
  have hb1 : Below w.heap.size w w1 := by rw [← hW1]; exact (Below.refl _ _).alloc (Nat.le_refl _) _
  have hP1 : Blk w1 w.heap.size 32 [.pointer (some ⟨d, 0, none⟩)] := by rw [← hW1]; exact Blk.new_at rfl
  have p0 : w1.cell? ⟨w.heap.size, 0, none⟩ = some (.pointer (some ⟨d, 0, none⟩)) := hP1.cell 0
  have d0 : w1.cell? ⟨d, 0, none⟩ = some (.pointer (some ⟨r, 0, none⟩)) := (hD.below hb1 hD.lt).cell 0
  have hL : Hid (s.length = 45) := Lib.hid hsl
  have hl1 : s.length ≤ 4096 := by omega
  clear hsl
  replace hls := Lib.hid hls
  replace hP1 := Lib.hid hP1
  unfold strV
  refine calls_of_wp_marks Tryz.func14 rfl ?_
  simp only [Tryz.ntmps14, List.size_toArray, List.length_cons, List.length_nil, Nat.reduceAdd, Nat.reduceSub, Array.replicate_succ, Array.replicate_zero, List.push_toArray, List.append_toArray, List.nil_append, List.cons_append]
  go_wp2_with fail
  refine (hlf.out _).mono ?_
  rintro e w3 ⟨rfl, hw3⟩
  simp only [World.size_alloc]
  have hb3 : Below w1.heap.size w1 w3 := by rw [hw3]; exact ((Below.refl _ _).alloc (Nat.le_refl _) _).alloc (by simp) _
  have hz3 : w3.heap.size = w1.heap.size + 2 := by rw [hw3]; simp
  have hS3 : Blk w3 (w1.heap.size + 1) 9 [strV s] := by rw [hw3]; exact Blk.new_at (by simp)
  have hB3 : BIs w1.heap.size w1.heap.size [] w3 := by rw [hw3]; exact bis_below (.inl ⟨Nat.le_refl _, _, heap_alloc_new w1 _, World.ownsRow_nil _ _ _ _, by simp [Value.ownBlock]⟩) ((Below.refl _ _).alloc (Nat.le_refl _) _)
  have hb13 := hb1.trans (hb3.mono hb1.size)
  have hs1 := hb1.size
  obtain ⟨b, hbb⟩ : ∃ b, b = w1.heap.size := ⟨_, rfl⟩
  have hI0 : PlayS w0 base g rb d r by_ v w.heap.size b [] w3 := ⟨0, by omega, rfl, ⟨(h.below hb13).bel, by omega, hP1.out.below hb3 hP1.out.lt, by rw [hbb]; exact hB3, hD.below hb13 hD.lt, fun _ => ⟨hR.below hb13 hR.lt, h.below hb13⟩, fun hj => by omega⟩⟩
  rw [← hbb] at hS3 ⊢
  have hbb1 : base ≤ b := by omega
  have hz3' : base ≤ w3.heap.size := by omega
  clear hw3 hb3 hB3 hP1 hb13 hb1 p0 d0 hW1 hD hR h hlf hz3 hs1 hbb
  have hs32 : s.length ≤ 4294967296 := by omega
  go_wp2_with fail
  refine wp_range_linesM (b + 1) s hs32 rfl rfl hS3 (PlayS w0 base g rb d r by_ v w.heap.size b) (PlayS.calm (by omega) hz3' hb0) hI0 (fun x => ?a1) ?assign ?body ?done
  case a1 => exact { tmps := #[.pointer (some ⟨d, 0, none⟩), .string ⟨s.toArray⟩, .pointer (some ⟨w.heap.size, 0, none⟩), undef, .string ⟨#[]⟩, .pointer (some ⟨b, 0, none⟩), strV x, .pointer (some ⟨d, 0, none⟩), .bool false, .bool false, .pointer (some ⟨d, 0, none⟩), .pointer (some ⟨d, 0, none⟩), .pointer (some ⟨d, 0, none⟩), .pointer (some ⟨r, 0, none⟩), .bool false, .bool false, .string ⟨s.toArray⟩, .int .i64 (s.length : Int), .bool (decide (4096 < (s.length : Int))), undef, undef, .string ⟨s.toArray⟩, .func (.func 49) #[] #[.pointer (some ⟨b + 1, 0, none⟩)], strV x, undef, undef, undef, undef, undef, undef, undef], defers := [] }
  case assign =>
    intro l x W K hK
    unfold strV
    gi_wp2
    unfold strV at hK
    exact hK
  case body =>
    rintro l pre x W ⟨j, hj, hpre, hI⟩ hxl ⟨rst, hlo⟩
    rw [hls.out, hpre] at hlo
    obtain ⟨hj4, hx, hpre2⟩ := line_of hj hlo
    have htr := fun W => Tryz.strings_TrimSuffix ⟨x.toArray⟩ ⟨#[10]⟩ W (by rw [strLn]; omega)
    rw [show Lib.trimSuffix (⟨x.toArray⟩ : ByteArray).data.toList (⟨#[10]⟩ : ByteArray).data.toList = lnN j from by rw [hx]; exact trimN hj4] at htr
    have hln := Lib.hid (fun W1 hd => line_step (W1 := W1) hj4 hb0 hr hky hI hd)
    have hal := ansL_len j
    have hol := outL_len j
    have hnext := Lib.hid (fun W' W2 => play_next (W' := W') (W2 := W2) hj4 hbb1 hI)
    obtain ⟨ans, hans⟩ : ∃ ans, ans = ansL j := ⟨_, rfl⟩
    obtain ⟨out, hout⟩ : ∃ out, out = outL j := ⟨_, rfl⟩
    obtain ⟨ln, hlnn⟩ : ∃ ln, ln = lnN j := ⟨_, rfl⟩
    rw [← hans] at hln hal hnext
    rw [← hout] at hol hnext
    rw [← hlnn] at htr hln
    have hbld := hI.bld
    rw [← hout] at hbld
    have hz1 : (⟨ans.toArray⟩ : ByteArray).size = ans.length := strLn ans
    have hcat := str_add ans [10]
    unfold strV at hln
    replace htr := Lib.hid htr
    replace hlo := Lib.hid hlo
    replace hI := Lib.hid hI
    replace hbld := Lib.hid hbld
    replace hcat := Lib.hid hcat
    replace hpre2 := Lib.hid hpre2
    clear hx hans hout hlnn
    gi_wp2
    unfold strV
    obtain ⟨PS, hPS⟩ : ∃ PS : World → Prop, ∀ y, PS y ↔ KeepsR W y := ⟨_, fun _ => Iff.rfl⟩
    have s0 : ∀ y : Cls PS, y.1.cell? ⟨w.heap.size, 0, none⟩ = some (.pointer (some ⟨d, 0, none⟩)) := fun y => (((hPS _).1 y.2).blk _ _ _ hI.out.box (by decide) (by decide) (by decide) (by decide)).cell 0
    have hbd := (Below.refl W.heap.size W).drew
    have s4 : PS W.drew := (hPS _).2 (KeepsR.below hbd)
    haveI : Nonempty (Cls PS) := ⟨⟨_, s4⟩⟩
    replace hPS := Lib.hid hPS
    refine wpIn_region_seg (fun w' => ∃ y : Cls PS, w' = y.1) [([0, 1], 2), ([], 3)] [4] 5 [] (by kernel_rfl) (by kernel_rfl) (fun _ d _ _ _ h => by cases d <;> exact h) (by rintro ⟨_, _, h⟩; exact h) (by rfl) ⟨⟨_, s4⟩, rfl⟩ ?_
    simp only [wpSeg, pickOps, List.map_cons, List.map_nil, nthOp_zero, nthOp_succ]
    repeat (first | go_big_quiet_step (fail))
    refine wpQuiet_nil ?_
    intro K hK
    go_simp
    refine (htr.out _).mono ?_
    rintro e w4 ⟨rfl, rfl⟩
    refine hK _ _ ⟨⟨_, s4⟩, rfl⟩ ?_
    clear hK
    refine wpQuiet_nil ?_
    intro K hK
    go_simp
    refine (hln.out _ hbd).mono ?_
    rintro e w5 ⟨rfl, hk5, hV5, hb5⟩
    refine hK _ _ ⟨⟨_, (hPS.out _).2 hk5⟩, rfl⟩ ?_
    clear hK
    repeat (first | go_big_quiet_step (fail))
    refine wpQuiet_nil ?_
    have hbl5 := hbld.out.keepsR hk5
    have hbz : b ≤ w5.heap.size := by
      rcases hbl5 with h | h
      · obtain ⟨_, v, hbk, _⟩ := h
        exact Nat.le_of_lt (lt_of_heap hbk)
      · obtain ⟨_, v, hbk, _⟩ := h
        exact Nat.le_of_lt (lt_of_heap hbk)
    have hws := ws_any b b out (ans ++ [10]) w5 hbl5 (by simp; omega) hbz
    rw [← hcat.out] at hws
    have hfin : Hid (∀ w6, BIs b b (out ++ (ans ++ [10])) w6 → Below b w5 w6 → KeepTag w5 w6 → KeepM W w6 ∧ KeepStr (b + 1) W w6 ∧ PlayS w0 base g rb d r by_ v w.heap.size b (pre ++ [x]) w6) := Lib.hid (fun w6 h1 h2 h3 =>
      ⟨⟨fun k o ho hm => h3.other k o (hk5.mark k o ho hm) (isMark_cells hm)⟩, fun cs hB => h3.blk _ _ _ (hk5.blk _ _ _ hB (by decide) (by decide) (by decide) (by decide)) (by decide) (by decide),
       j + 1, by omega, by rw [hpre]; exact hpre2.out, hnext.out w5 w6 hk5 hV5 hb5 h1 h2 h3⟩)
    clear s0 s4 hbl5 hbz hk5 hV5 hb5
    go_wp2_with fail
    refine hws.mono ?_
    rintro e w6 ⟨rfl, h1, h2, h3⟩
    have hf := hfin.out w6 h1 h2 h3
    clear hws hfin h1 h2 h3
    replace hf := Lib.hid hf
    go_wp2_with fail
    exact hf.out
  case done =>
    rintro D W hDl ⟨j, hj, hpre, hI⟩ hDe
    rw [hls.out] at hpre
    obtain rfl : j = 4 := by
      have := congrArg List.length hpre
      simp [alLines] at this
      omega
    have hstr := bstr_marks b (outL 4) W hI.bld (fun e => by have := congrArg List.length e; rw [out_len] at this; cases this)
    have hbsz := hI.size
    have hbe := hI.bel
    have hzW := hI.bel.size
    dsimp only
    obtain ⟨out, hout⟩ : ∃ out, out = outL 4 := ⟨_, rfl⟩
    rw [← hout] at hstr
    clear hpre hI hj
    replace hout := Lib.hid hout
    replace hbe := Lib.hid hbe
    replace hDe := Lib.hid hDe
    go_wp2_with fail
    refine hstr.mono ?_
    rintro e w3 ⟨rfl, hb4, hm4⟩
    have hD3 : w3.heap[D]? = some (.deferred (some [])) := hm4.same D _ hDe.out rfl
    have hbf : Below base w0 (w3.putObj D (.deferred none)) := (hbe.out.trans (hb4.mono hbb1)).grown (grownBy_putObj' w3 D (.deferred none)) (Nat.le_trans hb0 (Nat.le_trans hzW hb4.size)) (fun k e => by cases e; omega)
    replace hD3 := Lib.hid hD3
    replace hbf := Lib.hid hbf
    clear hstr hb4 hm4
    go_wp2_with fail
    refine leaves_mark hD3.out _ (results_tmp rfl _ _ _) ⟨by rw [← hout.out]; rfl, hbf.out⟩
theorem out_tail : (outL 4).drop 68 = [116, 101, 120, 116, 32, 34, 97, 92, 110, 98, 34, 10, 101, 114, 114, 111, 114, 32, 53, 10, 101, 114, 114, 111, 114, 32, 55, 10] := by
  have h1 : (idL ++ [10]).length = 68 := by rw [List.length_append, idL_len]; rfl
  have h2 : outL 4 = (idL ++ [10]) ++ ((txtL ++ [10]) ++ (errS 5 ++ [10]) ++ (errS 7 ++ [10])) := by simp [outL]
  rw [h2, ← h1, List.drop_left]
  decide +kernel
set_option maxRecDepth 100000 in
set_option maxHeartbeats 8000000 in
theorem dalive_any (w : World) (hI : DeskIn w) : Calls Tryz.prog 11 #[] w fun e w' => e = .returned (.bool true) ∧ Below w.heap.size w w' := by
  have hn := desknew_any annS (by decide +kernel) w
  have hol := out_len
  have hxt : ((⟨(outL 4).toArray⟩ : ByteArray).extract 68 96).toList = [116, 101, 120, 116, 32, 34, 97, 92, 110, 98, 34, 10, 101, 114, 114, 111, 114, 32, 53, 10, 101, 114, 114, 111, 114, 32, 55, 10] := by
    have h := ext_drop (outL 4) 68
    rw [hol] at h
    rw [h, out_tail]
    simp [Lib.toList_data]
  have hpl := Lib.hid (fun (g rb : Nat) (v : Value) (W : World) (h : Ref w w.heap.size rb g v (DS.new 16777216) [] W) (d r by_ : Nat) hR hr hD => play_any aliveS alive_text lines_alive (Nat.le_refl _) h d r by_ hR hr hD (fun W hb => hI.below hb))
  obtain ⟨out, hout⟩ : ∃ out, out = outL 4 := ⟨_, rfl⟩
  rw [← hout] at hxt hol hpl
  unfold strV aliveS at hpl
  unfold strV annS at hn
  have hz : (⟨out.toArray⟩ : ByteArray).size = out.length := strLn out
  clear hout hI
  go_enter Tryz.func11, Tryz.ntmps11
  go_wp2_with fail
  refine hn.mono ?_
  rintro e w1 ⟨d, r, by_, rb, v, g, rfl, hD, hR, hRef, hr, hd⟩
  go_wp2_with fail
  refine (hpl.out _ _ _ _ hRef d r by_ hR hr hD).mono ?_
  rintro e w2 ⟨rfl, hb⟩
  clear hpl hn
  replace hb := Lib.hid hb
  go_wp2_with fail
  go_returns
  exact ⟨rfl, hb.out⟩
end Go.Proofs.YtamdhaoglapnnaaGreatDoor
end
section
/- The walks of DeskNobody and DeskBack. -/
namespace Go.Proofs.YtamdhaoglapnnaaGreatDoor
open Go.RowKit

set_option maxRecDepth 100000 in
set_option maxHeartbeats 8000000 in
theorem desknobody_any (s : Str) (w : World) (hI : DeskIn w) :
    Calls Tryz.prog 5 #[strV s] w fun e w' => e = .returned (.bool true) ∧ Below w.heap.size w w' := by
  have ha := Lib.hid dalive_any
  have hln := Lib.hid (line_nil s)
  have hlz := Lib.hid (fun d W hD => line_zero d (.pointer none) (.string ⟨#[]⟩) s W hD)
  have hpn := Lib.hid (play_nil s)
  have hpz := Lib.hid (fun d W hD => play_zero d (.pointer none) (.string ⟨#[]⟩) s W hD)
  unfold strV at hln hlz hpn hpz ⊢
  generalize hW1 : (w.alloc (.cells #[.pointer none, .pointer none, .string ⟨#[]⟩] 36)).alloc (.cells #[.pointer none, .pointer (some ⟨w.heap.size, 0, none⟩)] 32) = w1
  have hD1 : Blk w1 w.heap.size 36 [.pointer none, .pointer none, .string ⟨#[]⟩] := by rw [← hW1]; exact Blk.alloc (Blk.new_at rfl) _
  have hS1 : Blk w1 (w.heap.size + 1) 32 [.pointer none, .pointer (some ⟨w.heap.size, 0, none⟩)] := by rw [← hW1]; exact Blk.new_at (by simp)
  have hb1 : Below w.heap.size w w1 := by rw [← hW1]; exact ((Below.refl _ _).alloc (Nat.le_refl _) _).alloc (by simp) _
  go_enter Tryz.func5, Tryz.ntmps5
  go_wp2_with fail
  clear hW1
  replace hI := Lib.hid hI
  go_loopw [9] (fun i wr => ∃ k : Nat, k ≤ 2 ∧ i = .int .i64 k ∧ Below w1.heap.size w1 wr) (fun i _ => 2 - (intOf i).toNat)
  case atStart => exact ⟨0, by omega, rfl, Below.refl _ _⟩
  case round =>
    obtain ⟨k, hk, rfl, hbw⟩ := hrel
    have hDw := hD1.below hbw hD1.lt
    have hSw := hS1.below hbw hS1.lt
    have hsz := hbw.size
    obtain rfl | rfl | rfl : k = 0 ∨ k = 1 ∨ k = 2 := by omega
    · have s0 := hSw.cell 0
      go_wp2_with fail
      refine (hln.out wr).mono ?_
      rintro e w3 ⟨rfl, rfl⟩
      go_wp2_with fail
      refine (hpn.out wr).mono ?_
      rintro e w4 ⟨rfl, hb4⟩
      have hb5 := hbw.trans (hb4.mono hsz)
      clear s0 hb4
      replace hb5 := Lib.hid hb5
      go_wp2_with fail
      go_roundw
      case rel => exact ⟨1, by omega, rfl, hb5.out⟩
      case measure => simp [intOf]
    · have s1 := hSw.cell 1
      go_wp2_with fail
      refine (hlz.out _ wr hDw).mono ?_
      rintro e w3 ⟨rfl, rfl⟩
      go_wp2_with fail
      refine (hpz.out _ wr hDw).mono ?_
      rintro e w4 ⟨rfl, hb4⟩
      have hb5 := hbw.trans (hb4.mono hsz)
      clear s1 hb4
      replace hb5 := Lib.hid hb5
      go_wp2_with fail
      go_roundw
      case rel => exact ⟨2, by omega, rfl, hb5.out⟩
      case measure => simp [intOf]
    · have hbz := hb1.trans (hbw.mono hb1.size)
      go_wp2_with fail
      refine (ha.out wr (hI.out.below hbz)).mono ?_
      rintro e w5 ⟨rfl, hb5⟩
      have hb6 := hbz.trans (hb5.mono hbz.size)
      clear hb5
      replace hb6 := Lib.hid hb6
      go_wp2_with fail
      go_returns
      exact ⟨rfl, hb6.out⟩
set_option maxRecDepth 100000 in
set_option maxHeartbeats 8000000 in
theorem deskback_any (s t : Str) (w : World) (hI : DeskIn w) (hs : s.length ≤ 1073741824) (ht : t.length ≤ 1073741824) :
    Calls Tryz.prog 7 #[strV s, strV t] w fun e w' => e = .returned (.bool true) ∧ Below w.heap.size w w' := by
  have ha := Lib.hid dalive_any
  have hq1 := Lib.hid (fun W => quote_any s W (by omega))
  have hql : (quoteS s).length ≤ 17592186044416 := by
    have := quotes_len s
    simp only [quoteS, List.length_cons, List.length_append, List.length_nil]
    omega
  have hu1 := Lib.hid (fun W (h : ErrIn W) => unquote_any (quoteS s) W hql h)
  have huq := unquote_quote s
  have hu2 := Lib.hid (fun W (h : ErrIn W) => unquote_any t W (by omega) h)
  have hun : Hid (∀ b, unquoteS t = some b → quoteS b = t ∧ b.length ≤ t.length) := Lib.hid (fun b h => by
    have h1 := quote_unquote h
    refine ⟨h1, ?_⟩
    rw [← h1]
    have : ∀ l : Str, l.length ≤ (quotesB l).length := fun l => by
      induction l with
      | nil => simp
      | cons c l ih =>
        have := (quoted_len c).1
        simp only [quotesB, List.flatMap_cons, List.length_append, List.length_cons] at ih ⊢
        omega
    have := this b
    simp only [quoteS, List.length_cons, List.length_append, List.length_nil]
    omega)
  obtain ⟨q, hq⟩ : ∃ q, q = quoteS s := ⟨_, rfl⟩
  rw [← hq] at hq1 hu1 huq
  clear hq hql
  unfold strV at hq1 hu1 hu2 ⊢
  replace hI := Lib.hid hI
  replace huq := Lib.hid huq
  go_enter Tryz.func7, Tryz.ntmps7
  go_wp2_with fail
  refine (hq1.out w).mono ?_
  rintro e w1 ⟨rfl, hb1⟩
  have hI1 := hI.out.below hb1
  replace hb1 := Lib.hid hb1
  go_wp2_with fail
  refine (hu1.out w1 hI1.err).mono ?_
  rintro e w2 ⟨rfl, hb2⟩
  rw [huq.out]
  unfold strV
  have hb2' := hb1.out.trans (hb2.mono hb1.out.size)
  have hI2 := hI.out.below hb2'
  clear hI1 hb2
  replace hb2' := Lib.hid hb2'
  go_wp2_with fail
  refine (hu2.out w2 hI2.err).mono ?_
  rintro e w3 ⟨rfl, hb3⟩
  have hb3' := hb2'.out.trans (hb3.mono hb2'.out.size)
  have hI3 := hI.out.below hb3'
  clear hI2 hb3 hu1 hq1
  cases hq : unquoteS t with
  | none =>
    have hal := ha.out w3 hI3
    replace hb3' := Lib.hid hb3'
    clear hI3
    go_wp2_with fail
    refine hal.mono ?_
    rintro e w4 ⟨rfl, hb4⟩
    have hb4' := hb3'.out.trans (hb4.mono hb3'.out.size)
    clear hal hb4
    replace hb4' := Lib.hid hb4'
    go_wp2_with fail
    go_returns
    exact ⟨rfl, hb4'.out⟩
  | some b =>
    obtain ⟨h1, h2⟩ := hun.out b hq
    have hq3 := quote_any b w3 (by omega)
    rw [h1] at hq3
    unfold strV at hq3 ⊢
    replace hb3' := Lib.hid hb3'
    replace hI3 := Lib.hid hI3
    clear h1 h2 hq
    go_wp2_with fail
    refine hq3.mono ?_
    rintro e w4 ⟨rfl, hb4⟩
    have hb4' := hb3'.out.trans (hb4.mono hb3'.out.size)
    have hal := ha.out w4 (hI.out.below hb4')
    clear hq3 hb4
    replace hb4' := Lib.hid hb4'
    go_wp2_with fail
    refine hal.mono ?_
    rintro e w5 ⟨rfl, hb5⟩
    have hb5' := hb4'.out.trans (hb5.mono hb4'.out.size)
    clear hal hb5
    replace hb5' := Lib.hid hb5'
    go_wp2_with fail
    go_returns
    exact ⟨rfl, hb5'.out⟩
end Go.Proofs.YtamdhaoglapnnaaGreatDoor
end
