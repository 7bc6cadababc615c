/- The desk's commands 'commit' and 'text'. -/
import Derived.Test.YtamdhaoglapnnaaGreatDoorM42
section
namespace Go.Proofs.YtamdhaoglapnnaaGreatDoor
open Go.RowKit

/-- What a repository of one commit shows. -/
def OneV (n a t : Str) (r : Nat) (w : World) : Prop :=
  ∃ lb lc rest by' V d v b rb g base, Blk w r 104 (repoCells (.slice (some ⟨lb, 0, none⟩) 1 lc) by' rb g a false) ∧ Blk w lb 155 (comL a V ++ rest) ∧ OpsIs w (OpB w) V (chain t) ∧ MapV w by' [(.agg ((idT a t).map B).toArray, .int .i64 0)] ∧ Blk w rb 147 [d, v, b] ∧ OwnTab w base v (oneT n (idT a t))
theorem OneSt.view {w0 : World} {base ob g rb r : Nat} {a t n : Str} {w : World} (h : OneSt w0 base ob g rb r a t n w) : OneV n a t r w := by
  obtain ⟨lb, lc, rest, by', V, v', S', k1, k2, k3, k4, k5, _⟩ := h.st
  exact ⟨lb, lc, rest, by', V, _, v', _, rb, g, base, k1, k2, k3, k4, k5.ref, k5.own⟩
theorem OneV.below {n a t : Str} {r : Nat} {w w' : World} (h : OneV n a t r w) (hb : Below w.heap.size w w') : OneV n a t r w' := by
  obtain ⟨lb, lc, rest, by', V, d, v, b, rb, g, base, k1, k2, k3, k4, k5, k6⟩ := h
  exact ⟨lb, lc, rest, by', V, d, v, b, rb, g, base, k1.below hb k1.lt, k2.below hb k2.lt, k3.touchB (Touch.ofBelow (L := []) hb) (by simp), k4.below hb k4.lt, k5.below hb k5.lt, k6.keepB hb⟩
theorem OneV.text {n a t : Str} {r : Nat} {w : World} (h : OneV n a t r w) (hn : nmOk n = true) (ha : nmOk a = true) (ht : t.length ≤ 1000) (hK : KeysIn w) :
    Calls Tryz.prog 70 #[.pointer (some ⟨r, 0, none⟩), strV n] w fun e w' => e = .returned (.tuple #[strV t, .int .i64 ((0 : Nat) : Int)]) ∧ Below w.heap.size w w' := by
  obtain ⟨lb, lc, rest, by', V, d, v, b, rb, g, base, k1, k2, k3, k4, k5, k6⟩ := h
  obtain ⟨OA, oc, rfl, _, _⟩ := id k3
  exact rtext_one n a t hn ha ht OA _ oc r lb lc rest by' rb g false d b v _ w k1 k5 k6.tab k4 k2 (k3.stay (fun _ _ _ => rfl) (fun _ _ hlt => hlt)) hK
theorem OneV.no {n a t x : Str} {r : Nat} {w : World} (h : OneV n a t r w) (hn : nmOk n = true) (hx : x ≠ n) :
    Calls Tryz.prog 70 #[.pointer (some ⟨r, 0, none⟩), strV x] w fun e w' => e = .returned (.tuple #[strV [], .int .i64 ((5 : Nat) : Int)]) ∧ Below w.heap.size w w' := by
  obtain ⟨lb, lc, rest, by', V, d, v, b, rb, g, base, k1, k2, k3, k4, k5, k6⟩ := h
  exact rtext_none r _ by' rb g a x false d b v (oneT n (idT a t)) _ w k1 k5 k6.tab (oneT_fit hn (idT_len a t)) (by simp [sorted]) (by simp [getT, Ne.symm hx])
set_option maxRecDepth 100000 in
set_option maxHeartbeats 4000000 in
theorem dtext_any (d r g wb c : Nat) (a x s : Str) (en : Nat) (rest : List Value) (w : World) (hD : Blk w d 36 (deskCells r g a)) (hW : Blk w wb 9 (strV x :: rest)) (hs : s.length ≤ 1000)
    (hT : ∀ W, Below w.heap.size w W → Calls Tryz.prog 70 #[.pointer (some ⟨r, 0, none⟩), strV x] W fun e W' => e = .returned (.tuple #[strV s, .int .i64 (en : Int)]) ∧ Below W.heap.size W W') :
    Calls Tryz.prog 42 #[.pointer (some ⟨d, 0, none⟩), .slice (some ⟨wb, 0, none⟩) 1 c] w fun e w' => e = .returned (.tuple #[strV ([116, 101, 120, 116, 32] ++ quoteS s), .int .i64 (en : Int)]) ∧ Below w.heap.size w w' := by
  have s0 : ∀ s : Over w, s.1.cell? ⟨d, 0, none⟩ = some (.pointer (some ⟨r, 0, none⟩)) := fun s => (blk_over hD s).cell 0
  have s1 : ∀ s : Over w, s.1.cell? ⟨wb, 0, none⟩ = some (.string ⟨x.toArray⟩) := fun s => (blk_over hW s).cell 0
  have hT' := Lib.hid (fun s : Over w => hT s.1 s.2)
  unfold strV at hT'
  have hq := Lib.hid (fun W => quote_any s W (by omega))
  have hql : (quoteS s).length ≤ 5000 := by
    have := quotes_len s
    simp only [quoteS, List.length_cons, List.length_append, List.length_nil]
    omega
  haveI := over_nonempty w
  clear hT hD hW
  go_enter Tryz.func42, Tryz.ntmps42
  go_wp2_with fail
  refine quiet_over (by kernel_rfl) (by kernel_rfl) ?_
  repeat (first | go_big_quiet_step (first | (go_at_call 70; exact calls_over _ (hT'.out _))))
  refine wpQuiet_nil ?_
  rintro _ ⟨s7, rfl⟩
  go_wp2_with fail
  refine (hq.out _).mono ?_
  rintro e w2 ⟨rfl, hb2⟩
  have hb := s7.2.trans (hb2.mono s7.2.size)
  unfold strV
  obtain ⟨q, hqq⟩ : ∃ q, q = quoteS s := ⟨_, rfl⟩
  rw [← hqq] at hql ⊢
  have hsz : (⟨q.toArray⟩ : ByteArray).size = q.length := strLn q
  have hqq2 : Hid (strV (116 :: 101 :: 120 :: 116 :: 32 :: quoteS s) = .string ((⟨#[116, 101, 120, 116, 32]⟩ : ByteArray) ++ ⟨q.toArray⟩)) := Lib.hid (by rw [← hqq]; exact congrArg Value.string (cat_str [116, 101, 120, 116, 32] q).symm)
  clear hq hqq
  go_wp2_with fail
  go_ret2
  rw [hqq2.out]
  exact ⟨rfl, hb⟩
theorem OneSt.bel {w0 : World} {base ob g rb r : Nat} {a t n : Str} {w : World} (h : OneSt w0 base ob g rb r a t n w) : Below base w0 w ∧ base ≤ w.heap.size := by
  obtain ⟨lb, lc, rest, by', V, v', S', k1, k2, k3, k4, k5, _⟩ := h.st
  exact ⟨k5.bel, k5.size⟩
set_option maxRecDepth 100000 in
set_option maxHeartbeats 8000000 in
theorem dcommit_first {w0 : World} {base g rb : Nat} {S : DS} {v : Value} {w : World} (a t n : Str) (hn : nmOk n = true) (ha : nmOk a = true) (ht : t.length ≤ 1000) (h0 : t ≠ []) (h : Ref w0 base rb g v S [] w) (hS : Live S none) (hroom : 1000000 ≤ S.room) (d r by_ wb c : Nat) (rest : List Value) (hR : Blk w r 104 (repoCells nilS by_ rb g a false)) (hr : base ≤ r)
    (hky : ∀ W, Below base w0 W → KeysIn W) (hD : Blk w d 36 (deskCells r g a)) (hW : Blk w wb 9 (strV n :: strV [] :: strV t :: rest)) :
    Calls Tryz.prog 37 #[.pointer (some ⟨d, 0, none⟩), .slice (some ⟨wb, 0, none⟩) 3 c] w fun e w' => e = .returned (.tuple #[strV ([105, 100, 32] ++ hexOf (idT a t)), .int .i64 ((0 : Nat) : Int)]) ∧ KeepsR w w' ∧ OneV n a t r w' ∧ Below base w0 w' := by
  have hbs := h.size
  have hid := idT_len a t
  obtain ⟨ds, hds⟩ : ∃ ds, ds = idT a t := ⟨_, rfl⟩
  have hcm : Hid (∀ W, Below w.heap.size w W → Calls Tryz.prog 64 #[.pointer (some ⟨r, 0, none⟩), .string ⟨n.toArray⟩, .string ⟨#[]⟩, .string ⟨t.toArray⟩] W fun e w' => e = .returned (.tuple #[.agg (ds.map B).toArray, .int .i64 0]) ∧ KeepsR W w' ∧ OneSt w0 base W.heap.size g rb r a t n w') :=
    Lib.hid (fun W hb => by
      have := rcommit_first a t n hn ha ht h0 (h.below hb) hS hroom r by_ (hR.below hb hR.lt) hr hky
      rw [hds]
      exact this)
  rw [← hds] at hid ⊢
  replace hds := Lib.hid hds
  replace h := Lib.hid h
  replace hR := Lib.hid hR
  replace hD := Lib.hid hD
  replace hW := Lib.hid hW
  replace hid := Lib.hid hid
  go_enter Tryz.func37, Tryz.ntmps37
  go_upto_region 1 with fail
  go_cut [6, 7] (fun p e wx => ∃ pb, p = .pointer (some ⟨pb, 0, none⟩) ∧ e = .int .i64 0 ∧ Blk wx pb 115 (ds.map B) ∧ KeepsR w wx ∧ ∃ ob, OneSt w0 base ob g rb r a t n wx)
  case first =>
    obtain ⟨PS, hPS⟩ : ∃ PS : World → Prop, ∀ x, PS x ↔ Blk x d 36 (deskCells r g a) ∧ Blk x wb 9 (strV n :: strV [] :: strV t :: rest) := ⟨_, fun _ => Iff.rfl⟩
    have s0 : ∀ s : Cls PS, s.1.cell? ⟨d, 0, none⟩ = some (.pointer (some ⟨r, 0, none⟩)) := fun s => ((hPS _).1 s.2).1.cell 0
    have s1 : ∀ s : Cls PS, s.1.cell? ⟨wb, 0, none⟩ = some (.string ⟨n.toArray⟩) := fun s => ((hPS _).1 s.2).2.cell 0
    have s2 : ∀ s : Cls PS, s.1.cell? ⟨wb, 1, none⟩ = some (.string ⟨#[]⟩) := fun s => ((hPS _).1 s.2).2.cell 1
    have s3 : ∀ s : Cls PS, s.1.cell? ⟨wb, 2, none⟩ = some (.string ⟨t.toArray⟩) := fun s => ((hPS _).1 s.2).2.cell 2
    have hbd := (Below.refl w.heap.size w).drew
    have s4 : PS w.drew := (hPS _).2 ⟨hD.out.below hbd hD.out.lt, hW.out.below hbd hW.out.lt⟩
    haveI : Nonempty (Cls PS) := ⟨⟨_, s4⟩⟩
    have hPK : Hid (∀ x, KeepsR w x → PS x) := Lib.hid (fun x hk => (hPS _).2 ⟨hk.blk _ _ _ hD.out (by decide) (by decide) (by decide) (by decide), hk.blk _ _ _ hW.out (by decide) (by decide) (by decide) (by decide)⟩)
    clear hPS
    refine region_plan (fun w' => ∃ s : Cls PS, w' = s.1) (.two [0, 1, 2, 3, 4, 5, 6, 7, 8, 9, 10, 11, 12] 13 (.one [14, 15, 16] 17 (.one [] 18 (.tail []))) 17 (.one [] 13 (.one [14, 15, 16] 18 (.tail [])))) 19 [] (by kernel_rfl) (by kernel_rfl) (fun _ d _ _ _ h => by cases d <;> exact h) ⟨⟨_, s4⟩, rfl⟩ ?_
    simp only [wpPlan, stepG, pickOps, List.map_cons, List.map_nil, nthOp_zero, nthOp_succ]
    repeat (first | go_big_quiet_step (fail))
    refine wpQuiet_nil ?_
    refine ⟨?_, ?_⟩
    · intro K hK
      go_simp
      refine (hcm.out _ hbd).mono ?_
      rintro e w1 ⟨rfl, hk1, h1⟩
      have hk1' := (KeepsR.below hbd).trans hk1
      refine hK _ _ ⟨⟨_, hPK.out _ hk1'⟩, rfl⟩ ?_
      clear hK
      repeat (first | go_big_quiet_step (fail))
      refine wpQuiet_nil ?_
      intro K hK
      go_simp
      have hb2 : Below w1.heap.size w1 (w1.alloc (.cells zero32.toArray 115)) := (Below.refl _ _).alloc (Nat.le_refl _) _
      have hk2 := hk1'.trans (KeepsR.below hb2)
      refine hK _ _ ⟨⟨_, hPK.out _ hk2⟩, rfl⟩ ?_
      clear hK
      refine wpQuiet_nil ?_
      intro K hK
      refine step_store_blk _ rfl 115 (.tmp 6) (.tmp 23) rfl w1.heap.size (ds.map B) rfl rfl 115 zero32 (Blk.new_at rfl) (by simp [hid.out, zero32]) (digSz hid.out) (all_B _) ?_
      have hb3 := below_setRow hb2 (Nat.le_refl _) (ds.map B).toArray
      have hk3 := hk1'.trans (KeepsR.below hb3)
      have hB3 : Blk ((w1.alloc (.cells zero32.toArray 115)).setRow w1.heap.size (ds.map B).toArray) w1.heap.size 115 (ds.map B) := (Blk.new_at (cs := zero32) rfl).setRow_same _
      refine hK _ _ ⟨⟨_, hPK.out _ hk3⟩, rfl⟩ ?_
      clear hK
      refine wpQuiet_nil ?_
      have h3 := h1.touch (Touch.ofBelow (L := []) hb3) (by simp)
      replace hB3 := Lib.hid hB3
      replace hk3 := Lib.hid hk3
      replace h3 := Lib.hid h3
      clear hb3 hk2 hb2 hk1' hk1 h1
      go_wp2_with fail
      go_meet
      exact ⟨_, rfl, rfl, hB3.out, hk3.out, _, h3.out⟩
    · intro K hK
      go_simp
      have hb2 : Below w.heap.size w (w.drew.alloc (.cells zero32.toArray 115)) := hbd.alloc hbd.size _
      have hB2 : Blk (w.drew.alloc (.cells zero32.toArray 115)) w.drew.heap.size 115 zero32 := Blk.new_at rfl
      refine hK _ _ ⟨⟨_, hPK.out _ (KeepsR.below hb2)⟩, rfl⟩ ?_
      clear hK
      refine wpQuiet_nil ?_
      intro K hK
      go_simp
      refine (hcm.out _ hb2).mono ?_
      rintro e w1 ⟨rfl, hk1, h1⟩
      have hk1' := (KeepsR.below hb2).trans hk1
      have hB3 := hk1.blk _ _ _ hB2 (by decide) (by decide) (by decide) (by decide)
      refine hK _ _ ⟨⟨_, hPK.out _ hk1'⟩, rfl⟩ ?_
      clear hK
      repeat (first | go_big_quiet_step (fail))
      refine wpQuiet_nil ?_
      intro K hK
      refine step_store_blk _ rfl 115 (.tmp 6) (.tmp 23) rfl w.drew.heap.size (ds.map B) rfl rfl 115 zero32 hB3 (by simp [hid.out, zero32]) (digSz hid.out) (all_B _) ?_
      have ht4 : Touch [w.drew.heap.size] w1 (w1.setRow w.drew.heap.size (ds.map B).toArray) := Touch.setRow (by simp) _
      have hB4 := hB3.setRow_same (ds.map B)
      have hsd : w.drew.heap.size = w.heap.size := rfl
      have hk4 : KeepsR w (w1.setRow w.drew.heap.size (ds.map B).toArray) := ⟨fun k t' cs hB a1 a2 a3 a4 => (hk1'.blk k t' cs hB a1 a2 a3 a4).touch ht4 (by have := hB.lt; simp; omega), fun k o ho hm => mark_touch ht4 (hk1'.mark k o ho hm) (by have := lt_of_heap ho; simp; omega)⟩
      have h4 := h1.touch ht4 (fun i hi => by
        obtain rfl : i = w.drew.heap.size := by simpa using hi
        exact ⟨by omega, hB2.lt, _, _, hB3, by decide, by decide, by decide, by decide, by decide, by decide, by decide⟩)
      refine hK _ _ ⟨⟨_, hPK.out _ hk4⟩, rfl⟩ ?_
      clear hK
      refine wpQuiet_nil ?_
      replace hB4 := Lib.hid hB4
      replace hk4 := Lib.hid hk4
      replace h4 := Lib.hid h4
      clear ht4 hB3 hk1' hk1 h1 hB2 hb2 hsd
      go_wp2_with fail
      go_meet
      exact ⟨_, rfl, rfl, hB4.out, hk4.out, _, h4.out⟩
  case rest =>
    obtain ⟨pb, rfl, rfl, hB, hk, ob, hO⟩ := hcut
    have hx := hex_any ds hid.out wc
    have hxl : (hexOf ds).length = 64 := by rw [hexOf_length, hid.out]
    obtain ⟨q, hq⟩ : ∃ q, q = hexOf ds := ⟨_, rfl⟩
    have hqq2 : Hid (strV ([105, 100, 32] ++ hexOf ds) = .string ((⟨#[105, 100, 32]⟩ : ByteArray) ++ ⟨q.toArray⟩)) := Lib.hid (by rw [← hq]; exact congrArg Value.string (cat_str [105, 100, 32] q).symm)
    rw [← hq] at hxl
    unfold strV at hx
    rw [← hq] at hx
    have hz : (⟨q.toArray⟩ : ByteArray).size = q.length := strLn q
    clear hq
    replace hk := Lib.hid hk
    replace hO := Lib.hid hO
    go_wp2_with (first
      | (refine wpList_load_blk rfl 115 (.tmp 6) rfl pb rfl 115 (ds.map B) hB _ Tryz.underlying115 rfl (digSz hid.out) ?_; go_frame)
      | fail)
    refine hx.mono ?_
    rintro e w2 ⟨rfl, hb2⟩
    clear hB hx
    go_wp2_with fail
    go_ret2
    have hbl := hO.out.bel
    refine ⟨?_, hk.out.trans (KeepsR.below hb2), hO.out.view.below hb2, hbl.1.trans (hb2.mono hbl.2)⟩
    simp only [List.cons_append, List.nil_append] at hqq2
    rw [hqq2.out]
    rfl
end Go.Proofs.YtamdhaoglapnnaaGreatDoor
end
section
/- A line of a desk. -/
namespace Go.Proofs.YtamdhaoglapnnaaGreatDoor
open Go.RowKit

theorem own_blks {w : World} {base : Nat} {e : TypeId} {k n : Nat} {v : Value} {xs : List Value} (h : w.ownsRow base e k v n xs) (hn : 0 < n) : ∃ g cap rest, v = .slice (some ⟨g, 0, none⟩) n cap ∧ base ≤ g ∧ n ≤ cap ∧ Blk w g e (xs ++ rest) := by
  rcases h with ⟨h1, ⟨_, h3⟩ | ⟨g, cap, cur, h2, h3, h4, h5, h6, h7, h8⟩⟩
  · omega
  · refine ⟨g, cap, cur.toList.drop (n * k), h2, h3, by omega, ?_⟩
    rw [← h8, List.take_append_drop]
    exact h4
def errS (n : Nat) : Str := [101, 114, 114, 111, 114, 32] ++ Lib.decDigits n
def LineTo (PostT : Str → Nat → World → Prop) (e : Ending) (w' : World) : Prop := ∃ t en W0, PostT t en W0 ∧ e = .returned (strV (if en = 0 then t else errS en)) ∧ Below W0.heap.size W0 w'
theorem infoStr : InfoOf Tryz.prog 9 (.string ⟨#[]⟩) 1 16 := ⟨by kernel_rfl, rfl, by omega⟩
theorem line_nil (s : Str) (w : World) : Calls Tryz.prog 13 #[.pointer none, strV s] w fun e w' => e = .returned (.string ⟨#[]⟩) ∧ w = w' := by
  unfold strV
  go_enter Tryz.func13, Tryz.ntmps13
  go_wp2_with fail
  go_returns
  exact ⟨rfl, rfl⟩
theorem line_zero (d : Nat) (x y : Value) (s : Str) (w : World) (hD : Blk w d 36 [.pointer none, x, y]) : Calls Tryz.prog 13 #[.pointer (some ⟨d, 0, none⟩), strV s] w fun e w' => e = .returned (.string ⟨#[]⟩) ∧ w = w' := by
  unfold strV
  have d0 := hD.cell 0
  go_enter Tryz.func13, Tryz.ntmps13
  go_wp2_with fail
  go_returns
  exact ⟨rfl, rfl⟩
theorem play_nil (s : Str) (w : World) : Calls Tryz.prog 14 #[.pointer none, strV s] w fun e w' => e = .returned (.string ⟨#[]⟩) ∧ Below w.heap.size w w' := by
  unfold strV
  have hb := (Below.refl w.heap.size w).alloc (Nat.le_refl _) (.cells #[.pointer none] 32)
  go_enter Tryz.func14, Tryz.ntmps14
  go_wp2_with fail
  go_returns
  exact ⟨rfl, hb⟩
theorem play_zero (d : Nat) (x y : Value) (s : Str) (w : World) (hD : Blk w d 36 [.pointer none, x, y]) : Calls Tryz.prog 14 #[.pointer (some ⟨d, 0, none⟩), strV s] w fun e w' => e = .returned (.string ⟨#[]⟩) ∧ Below w.heap.size w w' := by
  unfold strV
  have hb := (Below.refl w.heap.size w).alloc (Nat.le_refl _) (.cells #[.pointer (some ⟨d, 0, none⟩)] 32)
  have d0 := (hD.alloc (.cells #[.pointer (some ⟨d, 0, none⟩)] 32)).cell 0
  go_enter Tryz.func14, Tryz.ntmps14
  go_wp2_with fail
  go_returns
  exact ⟨rfl, hb⟩
theorem eql_func (f : FuncId) (w : World) : (binOp .eql 60 (.func (.func f) #[] #[]) .nilFunc).run Tryz.prog w = .ok (.bool false) w := by kernel_rfl
theorem eql_nofunc (w : World) : (binOp .eql 60 .nilFunc .nilFunc).run Tryz.prog w = .ok (.bool true) w := by kernel_rfl
theorem wordSz : (Tryz.prog.info? 29).map (·.size) = some 2 := by kernel_rfl
theorem word_at (ws : List Wrd) (rest : List Value) (cmd : Str) (k : Nat) (h : k < ws.length) : ∃ r, (wCells ((false, cmd) :: ws) ++ rest).drop (2 + k * 2) = [.bool ws[k].1, strV ws[k].2] ++ r := by
  have key : ∀ (l : List Wrd) (k : Nat) (h : k < l.length), ∃ r, (wCells l ++ rest).drop (k * 2) = [.bool l[k].1, strV l[k].2] ++ r := by
    intro l
    induction l with
    | nil => intro k h; simp at h
    | cons p l ih =>
      intro k h
      cases k with
      | zero => exact ⟨wCells l ++ rest, rfl⟩
      | succ k =>
        obtain ⟨r, hr⟩ := ih k (by simpa using h)
        refine ⟨r, ?_⟩
        rw [show (k + 1) * 2 = k * 2 + 1 + 1 by omega]
        exact hr
  obtain ⟨r, hr⟩ := key ((false, cmd) :: ws) (k + 1) (by simp; omega)
  refine ⟨r, ?_⟩
  rw [show 2 + k * 2 = (k + 1) * 2 by omega]
  exact hr
set_option maxRecDepth 100000 in
set_option maxHeartbeats 16000000 in
/-- What a line does whose words name a command. -/
theorem line_cmd (f : FuncId) (hen : Enters Tryz.prog f) (form cmd : Str) (hcmd : cmdOf cmd = .agg #[strV form, .func (.func f) #[] #[]]) (hcl : cmd.length ≤ 1000) (d r g : Nat) (a s : Str) (ws : List Wrd) (w : World) (hs : s.length ≤ 4294967296) (hw : wordsS s = some ((false, cmd) :: ws)) (hform : form.length = ws.length) (hws : 0 < ws.length) (hwl : ws.length ≤ 1000)
    (hq : ∀ (k : Nat) (h : k < ws.length) (h' : k < form.length), (bv form[k] == 113) = ws[k].1) (hD : Blk w d 36 (deskCells r g a)) (hE : ErrIn w) (PostT : Str → Nat → World → Prop)
    (hf : ∀ (wb c : Nat) (rest : List Value) (W : World), Below w.heap.size w W → Blk W wb 9 (ws.map (fun p => strV p.2) ++ rest) → Calls Tryz.prog f #[.pointer (some ⟨d, 0, none⟩), .slice (some ⟨wb, 0, none⟩) ws.length c] W fun e W' => ∃ t en, e = .returned (.tuple #[strV t, .int .i64 ((en : Nat) : Int)]) ∧ en ≤ 1000 ∧ TabK W' ∧ PostT t en W') :
    Calls Tryz.prog 13 #[.pointer (some ⟨d, 0, none⟩), strV s] w (LineTo PostT) := by
  have hwd := words_any s w hs hE
  have d0 : w.cell? ⟨d, 0, none⟩ = some (.pointer (some ⟨r, 0, none⟩)) := hD.cell 0
  unfold strV at hwd ⊢
  have hfz : (⟨form.toArray⟩ : ByteArray).size = form.length := strLn form
  have hnf := eql_func f
  replace hen := Lib.hid hen
  replace hf := Lib.hid hf
  replace hcmd := Lib.hid hcmd
  replace hw := Lib.hid hw
  replace hq := Lib.hid hq
  replace hD := Lib.hid hD
  replace hE := Lib.hid hE
  go_enter Tryz.func13, Tryz.ntmps13
  go_wp2_with fail
  refine hwd.mono ?_
  rintro e w1 ⟨hm, hb1⟩
  rw [hw.out] at hm
  obtain ⟨A, c, rfl, hrow⟩ := hm
  obtain ⟨lb, lc, rest, hv, _, hlc, hL⟩ := own_blks hrow (by simp)
  cases hv
  have l0 : w1.cell? ⟨lb, 0, none⟩ = some (.bool false) := hL.cell 0
  have l1 : w1.cell? ⟨lb, 1, none⟩ = some (.string ⟨cmd.toArray⟩) := hL.cell 1
  have hlen : ((false, cmd) :: ws).length = ws.length + 1 := rfl
  rw [hlen] at hlc ⊢
  clear hwd hrow d0
  replace hL := Lib.hid hL
  go_wp2_with fail
  refine (find_any cmd w1 (by unfold maxLen; omega)).mono ?_
  rintro e w2 ⟨rfl, hb2⟩
  rw [hcmd.out]
  have hb2' := hb1.trans (hb2.mono hb1.size)
  have hL2 := hL.out.below hb2 hL.out.lt
  have l2 : ∀ o, (w2.alloc o).cell? ⟨lb, 0, none⟩ = some (.bool false) := fun o => (hL2.alloc o).cell 0
  clear l0 l1 hL hb2
  replace hL2 := Lib.hid hL2
  replace hb2' := Lib.hid hb2'
  go_wp2_with (first
    | (refine wpList_store_blk rfl 62 (.tmp 7) (.tmp 40) rfl w2.heap.size [strV form, .func (.func f) #[] #[]] rfl rfl 62 [.string ⟨#[]⟩, .nilFunc] (Blk.new_at rfl) rfl cmdSz (by simp [strV, Value.oneCell']) ?_
       generalize hW3 : World.setRow (w2.alloc _) w2.heap.size _ = w3
       have hb3 : Below w2.heap.size w2 w3 := by rw [← hW3]; exact below_setRow ((Below.refl _ _).alloc (Nat.le_refl _) _) (Nat.le_refl _) _
       have hC3 : Blk w3 w2.heap.size 62 [strV form, .func (.func f) #[] #[]] := by rw [← hW3]; exact (Blk.new_at (cs := [.string ⟨#[]⟩, .nilFunc]) rfl).setRow_same _
       have c0 : w3.cell? ⟨w2.heap.size, 0, none⟩ = some (.string ⟨form.toArray⟩) := hC3.cell 0
       have c1 : w3.cell? ⟨w2.heap.size, 1, none⟩ = some (.func (.func f) #[] #[]) := hC3.cell 1
       replace hb3 := Lib.hid hb3
       replace hC3 := Lib.hid hC3
       clear hW3
       go_frame)
    | fail)
  have hb3' := hb2'.out.trans (hb3.out.mono hb2'.out.size)
  have hs3 := hb2'.out.size
  have hs33 := hb3.out.size
  have hs33' : w.heap.size ≤ w3.heap.size := Nat.le_trans hs3 hs33
  have hL3 := hL2.out.below hb3.out hL2.out.lt
  have hClt := hC3.out.lt
  replace hL3 := Lib.hid hL3
  replace hb3' := Lib.hid hb3'
  clear hL2 hb2' hb3 l2 c0 c1
  have hdrop : Hid (∀ (k : Nat) (h : k < ws.length), ∃ r, (wCells ((false, cmd) :: ws) ++ rest).drop (2 + k * 2) = [.bool ws[k].1, strV ws[k].2] ++ r) := Lib.hid (word_at ws rest cmd)
  go_loopw [57, 8] (fun i v wr => ∃ (k : Nat) (A : Option Addr) (cp : Nat), k ≤ ws.length ∧ i = .int .i64 k ∧ v = .slice A k cp ∧ wr.ownsRow w3.heap.size 9 1 (.slice A k cp) k ((ws.take k).map fun p => strV p.2) ∧ Below w3.heap.size w3 wr) (fun i _ _ => ws.length - (intOf i).toNat)
  case atStart => exact ⟨0, none, 0, by omega, rfl, rfl, ⟨rfl, .inl ⟨rfl, rfl⟩⟩, Below.refl _ _⟩
  case round =>
    obtain ⟨k, A, cp, hk, rfl, rfl, hown, hb⟩ := hrel
    have hLr := hL3.out.below hb hL3.out.lt
    have hCr := hC3.out.below hb hC3.out.lt
    have hsr := hb.size
    by_cases hlt : k < ws.length
    · obtain ⟨r, hr⟩ := hdrop.out k hlt
      have hqk := hq.out k hlt (by omega)
      have hidx := index_strB form k (by omega)
      have htk : Hid ((ws.take (k + 1)).map (fun p => strV p.2) = (ws.take k).map (fun p => strV p.2) ++ [strV ws[k].2]) := Lib.hid (by rw [List.take_succ_eq_append_getElem hlt, List.map_append]; rfl)
      obtain ⟨t, ht⟩ : ∃ t, t = ws[k].2 := ⟨_, rfl⟩
      obtain ⟨q, hqq⟩ : ∃ q, q = ws[k].1 := ⟨_, rfl⟩
      rw [← ht] at hr htk
      rw [← hqq] at hr hqk
      generalize bv form[k] = x at hqk hidx
      clear ht hqq
      replace hr := Lib.hid hr
      replace hb := Lib.hid hb
      replace hown := Lib.hid hown
      replace hCr := Lib.hid hCr
      go_wp2_with (first
        | (refine wpList_load_part rfl 29 (.tmp 60) rfl lb (2 + k * 2) rfl 29 _ [.bool q, strV t] r hLr hr.out _ Tryz.underlying29 rfl wordSz ?_
           go_frame)
        | (refine wpList_store_blk rfl 29 (.tmp 10) (.tmp 61) rfl wr.heap.size [.bool q, strV t] rfl rfl 29 [.bool false, .string ⟨#[]⟩] (Blk.new_at rfl) rfl wordSz (by simp [strV, Value.oneCell']) ?_
           generalize hW4 : World.setRow (wr.alloc _) wr.heap.size _ = w4
           have hb4 : Below wr.heap.size wr w4 := by rw [← hW4]; exact below_setRow ((Below.refl _ _).alloc (Nat.le_refl _) _) (Nat.le_refl _) _
           have hX4 : Blk w4 wr.heap.size 29 [.bool q, strV t] := by rw [← hW4]; exact (Blk.new_at (cs := [.bool false, .string ⟨#[]⟩]) rfl).setRow_same _
           replace hb4 := Lib.hid hb4
           replace hX4 := Lib.hid hX4
           clear hW4
           go_frame)
        | fail)
      have hCr4 := hCr.out.below hb4.out hCr.out.lt
      have z0 : ∀ s : Over w4, s.1.cell? ⟨wr.heap.size, 0, none⟩ = some (.bool q) := fun s => (blk_over hX4.out s).cell 0
      have z1 : ∀ s : Over w4, s.1.cell? ⟨w2.heap.size, 0, none⟩ = some (.string ⟨form.toArray⟩) := fun s => (blk_over hCr4 s).cell 0
      haveI := over_nonempty w4
      have hb4' := Lib.hid (hb.out.trans (hb4.out.mono hsr))
      have hown4 := Lib.hid (own_later hown.out hb4.out)
      have hs4 := hb4.out.size
      clear hCr4 hCr hown hb hb4
      cases q
      all_goals
        refine quiet_over (by kernel_rfl) (by kernel_rfl) ?_
        repeat (first | go_big_quiet_step (fail))
        refine wpQuiet_nil ?_
        rintro _ ⟨s7, rfl⟩
        have hown7 := own_later hown4.out s7.2
        have y1 : s7.1.cell? ⟨wr.heap.size, 1, none⟩ = some (.string ⟨t.toArray⟩) := (blk_over hX4.out s7).cell 1
        have hb7 := Lib.hid (hb4'.out.trans (s7.2.mono (Nat.le_trans hsr hs4)))
        have hs7 := s7.2.size
        clear z0 z1 hown4
        go_wp2_with (at_builtin; refine wpList_append_rd _ rfl (.tmp 71) (.tmp 74) 64 rfl w3.heap.size 9 _ 1 16 Tryz.underlying64 infoStr (.slice A k cp) k ((ws.take k).map fun p => strV p.2) rfl (hown7.alloc _) (fun _ => True) (some ⟨s7.1.heap.size, 0, none⟩) 1 1 [strV t] rfl rfl (Rd.of_blk (cs := [strV t]) (r := []) (Blk.new_at rfl) rfl trivial) (by simp [strV, Value.oneCell']) (by unfold maxLen; omega) (by omega) (by simp; omega) ?_; intro v' w8 hown8 hg8 hv8; obtain ⟨A8, c8, rfl, _, _⟩ := own_form hown8; have hbf := Lib.hid ((hb7.out.alloc (by omega) _).trans (own_below (hown7.alloc _) hg8 (by simp; omega))); replace hown8 := Lib.hid hown8; clear hg8 hv8 hown7; go_frame)
        go_roundw
        case rel => exact ⟨k + 1, A8, c8, by omega, by go_num, rfl, by rw [htk.out]; exact hown8.out, hbf.out⟩
        case measure => simp [intOf]; omega
    · obtain rfl : k = ws.length := by omega
      rw [List.take_length] at hown
      obtain ⟨wb, wc, wrest, hv, hwb1, hwc, hWb⟩ := own_blks hown hws
      cases hv
      have c1 : wr.cell? ⟨w2.heap.size, 1, none⟩ = some (.func (.func f) #[] #[]) := hCr.cell 1
      have hcall := hf.out wb cp wrest wr (hb3'.out.trans (hb.mono hs33')) hWb
      clear hown hWb hCr hLr hdrop hL3 hC3 hb
      go_wp2_with fail
      rw [hen.out, Oper.upon_enter]
      refine hcall.mono ?_
      rintro e w5 ⟨t, en, rfl, hen5, hTb, hP⟩
      unfold strV
      by_cases h0 : en = 0
      · subst h0
        have hres : Hid (LineTo PostT (.returned (.string ⟨t.toArray⟩)) w5) := Lib.hid ⟨t, 0, w5, hP, rfl, Below.refl _ _⟩
        clear hcall c1 hP hTb
        go_wp2_with fail
        go_returns
        exact hres.out
      · have d1 : ((en : Int) != 0) = true := by simp; omega
        have hfl := failed_any en (by omega) w5 hTb
        have hres : Hid (∀ w6, Below w5.heap.size w5 w6 → LineTo PostT (.returned (.string ⟨(errS en).toArray⟩)) w6) := Lib.hid (fun w6 hb6 => ⟨t, en, w5, hP, by rw [if_neg h0]; rfl, hb6⟩)
        clear hcall c1 hP hTb h0
        go_wp2_with fail
        refine hfl.mono ?_
        rintro e w6 ⟨rfl, hb6⟩
        have hr := Lib.hid (hres.out _ hb6)
        clear hfl hres hb6
        go_wp2_with fail
        go_returns
        exact hr.out
set_option maxRecDepth 100000 in
set_option maxHeartbeats 16000000 in
/-- What a line does whose first word is no command. -/
theorem line_unknown (cmd : Str) (hcmd : cmdOf cmd = noCmd) (hcl : cmd.length ≤ 1000) (d r g : Nat) (a s : Str) (ws : List Wrd) (w : World) (hs : s.length ≤ 4294967296) (hw : wordsS s = some ((false, cmd) :: ws)) (hD : Blk w d 36 (deskCells r g a)) (hE : ErrIn w) (hT : TabK w) :
    Calls Tryz.prog 13 #[.pointer (some ⟨d, 0, none⟩), strV s] w fun e w' => e = .returned (strV (errS 7)) ∧ Below w.heap.size w w' := by
  have hwd := words_any s w hs hE
  have d0 : w.cell? ⟨d, 0, none⟩ = some (.pointer (some ⟨r, 0, none⟩)) := hD.cell 0
  unfold strV at hwd ⊢
  have hnf := eql_nofunc
  replace hcmd := Lib.hid hcmd
  replace hw := Lib.hid hw
  replace hD := Lib.hid hD
  replace hE := Lib.hid hE
  replace hT := Lib.hid hT
  go_enter Tryz.func13, Tryz.ntmps13
  go_wp2_with fail
  refine hwd.mono ?_
  rintro e w1 ⟨hm, hb1⟩
  rw [hw.out] at hm
  obtain ⟨A, c, rfl, hrow⟩ := hm
  obtain ⟨lb, lc, rest, hv, _, hlc, hL⟩ := own_blks hrow (by simp)
  cases hv
  have l0 : w1.cell? ⟨lb, 0, none⟩ = some (.bool false) := hL.cell 0
  have l1 : w1.cell? ⟨lb, 1, none⟩ = some (.string ⟨cmd.toArray⟩) := hL.cell 1
  have hlen : ((false, cmd) :: ws).length = ws.length + 1 := rfl
  rw [hlen] at hlc ⊢
  clear hwd hrow d0
  replace hL := Lib.hid hL
  go_wp2_with fail
  refine (find_any cmd w1 (by unfold maxLen; omega)).mono ?_
  rintro e w2 ⟨rfl, hb2⟩
  rw [hcmd.out]
  unfold noCmd
  have hb2' := hb1.trans (hb2.mono hb1.size)
  clear l0 l1 hL hb2
  replace hb2' := Lib.hid hb2'
  go_wp2_with (first
    | (refine wpList_store_blk rfl 62 (.tmp 7) (.tmp 40) rfl w2.heap.size [.string ⟨#[]⟩, .nilFunc] rfl rfl 62 [.string ⟨#[]⟩, .nilFunc] (Blk.new_at rfl) rfl cmdSz (by simp [Value.oneCell']) ?_
       generalize hW3 : World.setRow (w2.alloc _) w2.heap.size _ = w3
       have hb3 : Below w2.heap.size w2 w3 := by rw [← hW3]; exact below_setRow ((Below.refl _ _).alloc (Nat.le_refl _) _) (Nat.le_refl _) _
       have hC3 : Blk w3 w2.heap.size 62 [.string ⟨#[]⟩, .nilFunc] := by rw [← hW3]; exact (Blk.new_at (cs := [.string ⟨#[]⟩, .nilFunc]) rfl).setRow_same _
       have c0 : w3.cell? ⟨w2.heap.size, 0, none⟩ = some (.string ⟨#[]⟩) := hC3.cell 0
       have c1 : w3.cell? ⟨w2.heap.size, 1, none⟩ = some .nilFunc := hC3.cell 1
       replace hb3 := Lib.hid hb3
       replace hC3 := Lib.hid hC3
       clear hW3
       go_frame)
    | fail)
  have hb3' := hb2'.out.trans (hb3.out.mono hb2'.out.size)
  have hfl := failed_any 7 (by omega) w3 (tabK_below hT.out hb3')
  replace hb3' := Lib.hid hb3'
  refine hfl.mono ?_
  rintro e w6 ⟨rfl, hb6⟩
  have hbf := hb3'.out.trans (hb6.mono hb3'.out.size)
  clear hfl hb6
  replace hbf := Lib.hid hbf
  go_wp2_with fail
  go_returns
  exact ⟨rfl, hbf.out⟩
end Go.Proofs.YtamdhaoglapnnaaGreatDoor
end
