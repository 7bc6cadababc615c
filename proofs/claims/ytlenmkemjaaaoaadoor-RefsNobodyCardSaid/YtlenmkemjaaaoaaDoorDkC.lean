/- The walks of Write, Remove, Rename. -/
import Derived.Test.YtlenmkemjaaaoaaDoorDkB
namespace Go.Proofs.YtlenmkemjaaaoaaDoor
open Go.RowKit Go.Maps Go.Sort

theorem tick_now (S : DS) : S.tick.now = S.now := by unfold DS.tick; split <;> rfl
theorem tick_sure (S : DS) : S.tick.sure = S.sure := by unfold DS.tick; split <;> rfl
theorem tick_pend (S : DS) : S.tick.pend = S.pend := by unfold DS.tick; split <;> rfl
theorem tick_room (S : DS) : S.tick.room = S.room := by unfold DS.tick; split <;> rfl
theorem over_cell {w : World} {p : Addr} {v : Value} (h : w.cell? p = some v) (s : Over w) : s.1.cell? p = some v := by
  rw [s.2.cell (World.block_lt_of_cell? _ _ h)]; exact h
theorem MapIs.over {w : World} {b : Nat} {D : DM} (h : MapIs w b D) (s : Over w) : MapIs s.1 b D := h.block (s.2.block b h.lt)
/-- What a writing call asks. -/
structure Asked (S : DS) : Prop extends S.Good where
  few2 : S.pend.length < 4398046511104
theorem boxedD {w : World} (s : List UInt8) : Blk (w.alloc (.cells #[strV s] 9)) w.heap.size 9 [strV s] := Blk.new_at (cs := [strV s]) rfl
theorem Touch.box {w w' : World} {g b : Nat} {t : TypeId} {cs cs' : List Value} (h : Blk w b t cs) (hg : Blk w g 75 cs') (ht : Touch [g] w w') (hne : t ≠ 75) : Blk w' b t cs :=
  h.touch ht (by have := h.ne_ hg hne; simpa using this)

set_option maxRecDepth 100000 in
set_option maxHeartbeats 2000000 in
theorem write_any (g bn bs : Nat) (v : Value) (S : DS) (s t : List UInt8) (w : World) (h : DiskAt w g bn bs v S) (hA : Asked S) (hs : s.length ≤ 140737488355328) (ht : t.length ≤ 140737488355328) :
    Calls Tryd.prog 59 #[.pointer (some ⟨g, 0, none⟩), strV s, strV t] w fun e w' => e = .returned (.int .i64 ((Call.write s t).errno S)) ∧ Turned w (foot g bn bs v) g ((Call.write s t).turn S) w' := by
  have hbl : Below w.heap.size w ((w.alloc (.cells #[strV s] 9)).alloc (.cells #[strV t] 9)) := ((Below.refl _ _).alloc (Nat.le_refl _) _).alloc (by simp) _
  have hB1 : Blk ((w.alloc (.cells #[strV s] 9)).alloc (.cells #[strV t] 9)) w.heap.size 9 [strV s] := (boxedD s).alloc _
  have hB2 : Blk ((w.alloc (.cells #[strV s] 9)).alloc (.cells #[strV t] 9)) (w.heap.size + 1) 9 [strV t] := Blk.new_at (cs := [strV t]) (by simp)
  have hd0 := h.below hbl
  have hA' := Lib.hid hA
  replace h := Lib.hid h
  go_enter Tryd.func59, Tryd.ntmps59
  go_wp2_with fail
  generalize ((w.alloc (.cells #[strV s] 9)).alloc (.cells #[strV t] 9)) = w0 at hbl hB1 hB2 hd0 ⊢
  refine (power_write g bn bs v S w0 hd0 hA.fuse0 hA.fuse1).mono ?_
  rintro e w1 ⟨rfl, hd1, ht1, hz1⟩
  have hB1' := hB1.touch ht1 (by have := hB1.ne_ hd0.blk (by decide); simpa using this)
  have hB2' := hB2.touch ht1 (by have := hB2.ne_ hd0.blk (by decide); simpa using this)
  have htt : Touch (foot g bn bs v) w w1 := (Touch.ofBelow hbl).trans ht1 (fun i hi => .inl (by have : i = g := (by simpa using hi); rw [this]; simp [foot]))
  have hend : ∀ w', Below w1.heap.size w1 w' → Turned w (foot g bn bs v) g S.tick w' := fun w' hb => Turned.then htt (fun i hi => .inl hi) (Turned.same ⟨bn, bs, v, hd1, rfl⟩ hb)
  replace hend := Lib.hid hend
  clear hbl hB1 hB2 hd0 ht1 hz1
  cases ho : S.tick.off with
  | true =>
    have hp : Hid (S.powE = 15) := Lib.hid (by simp [DS.powE, ho])
    have he : Hid ((Call.write s t).errno S = 15) := Lib.hid (by simp [Call.errno, ho])
    have hu : Hid ((Call.write s t).turn S = S.tick) := Lib.hid (by simp [Call.turn, ho])
    rw [hp.out]
    clear hA ho htt hd1 hB1' hB2'
    go_wp2
    go_ret
    rw [hu.out]
    exact ⟨ret_int he.out.symm, hend.out _ (Below.refl _ _)⟩
  | false =>
    have hp : Hid (S.powE = 0) := Lib.hid (by simp [DS.powE, ho])
    rw [hp.out]
    have k1 : w1.cell? ⟨w.heap.size, 0, none⟩ = some (strV s) := by rw [hB1'.cell]; rfl
    have k2 : w1.cell? ⟨w.heap.size + 1, 0, none⟩ = some (strV t) := by rw [hB2'.cell]; rfl
    have hnm := Lib.hid (fun w => name_any s w hs)
    cases hn : nameB s with
    | false =>
      have he : Hid ((Call.write s t).errno S = 11) := Lib.hid (by simp [Call.errno, ho, Call.err, hn])
      have hu : Hid ((Call.write s t).turn S = S.tick) := Lib.hid (by simp [Call.turn, ho, Call.err, hn])
      rw [hn] at hnm
      clear hA ho htt hd1 hB1' hB2' hn
      go_wp2_with fail
      refine (hnm.out _).mono ?_
      rintro e w' ⟨rfl, rfl⟩
      go_wp2
      go_ret
      rw [hu.out]
      exact ⟨ret_int he.out.symm, hend.out _ (Below.refl _ _)⟩
    | true =>
      rw [hn] at hnm
      have hM := hd1.now
      have c0 : w1.cell? ⟨g, 0, none⟩ = some (.map (some bn)) := by rw [hd1.blk.cell]; rfl
      have c3 : w1.cell? ⟨g, 3, none⟩ = some (.int .i64 S.room) := by rw [hd1.blk.cell]; show some (Value.int .i64 S.tick.room) = _; rw [tick_room]
      rw [tick_now] at hM
      have hs80 : s.length ≤ 80 := by simp [nameB] at hn; exact hn.2
      have q0 := fun s' => over_cell c0 s'
      have q1 := fun s' => over_cell k1 s'
      have hlook : ∀ s' : Over w1, (Instr.lookup 72 (.map (some bn)) (strV s) true).run Tryd.prog s'.1 = .ok (.tuple #[strV (fS S.now s), .bool (fHas S.now s)]) s'.1 := fun s' => (hM.over s').look (max_80 hs80)
      have hdoes := Lib.hid (does_any g bn bs v S.tick (.write s t))
      have htl := hM.text_le (max_80 hs80)
      have hsum : fSum S.now ≤ 16777216 := by have := hA.sum; have := hA.room1; omega
      have hxs : (fS S.now s).length ≤ fSum S.now := by have := fSum_del (k := s) hA.now; omega
      have hfew := hA.few
      have hr0 := hA.room0
      have hr1 := hA.room1
      obtain ⟨x, hx⟩ : ∃ x, x = fS S.now s := ⟨_, rfl⟩
      obtain ⟨hb, hhb⟩ : ∃ hb, hb = fHas S.now s := ⟨_, rfl⟩
      obtain ⟨m, hm⟩ : ∃ m, m = fSum S.now := ⟨_, rfl⟩
      obtain ⟨n, hnn⟩ : ∃ n, n = fLen S.now := ⟨_, rfl⟩
      obtain ⟨r, hr⟩ : ∃ r, r = S.room := ⟨_, rfl⟩
      rw [← hx, ← hhb] at hlook
      rw [← hx, ← hm] at hxs
      rw [← hx] at htl
      rw [← hm] at hsum
      rw [← hnn] at hfew
      rw [← hr] at hr0 hr1 c3
      have hfb : Hid (fullB S.tick s t = (decide (r - (t.length : Int) < (m : Int) - (x.length : Int)) || decide (600 < n + (if hb then 0 else 1)))) := Lib.hid (by rw [hr, hm, hx, hnn, hhb]; unfold fullB; rw [tick_now, tick_room])
      have hsz : Hid (∀ s' : Over w1, Calls Tryd.prog 66 #[.map (some bn)] s'.1 fun e w' => e = .returned (.int .i64 (m : Int)) ∧ Below s'.1.heap.size s'.1 w') := Lib.hid (fun s' => by rw [hm]; exact size_any s'.1 bn S.now (hM.over s') (by omega))
      have hln : Hid (∀ s' : Over w1, s'.1.ownsMap Tryd.prog 9 (plainElem (H := Unit) Tryd.prog 9) bn n S.now) := Lib.hid (fun s' => by rw [hnn]; exact hM.over s')
      have hln' : Hid (Maps.size S.now = n) := Lib.hid hnn.symm
      replace hx := Lib.hid hx
      replace hhb := Lib.hid hhb
      replace hm := Lib.hid hm
      replace hnn := Lib.hid hnn
      replace hr := Lib.hid hr
      replace hd1 := Lib.hid hd1
      replace hB1' := Lib.hid hB1'
      replace hB2' := Lib.hid hB2'
      replace htt := Lib.hid htt
      replace htl := Lib.hid htl
      replace ho := Lib.hid ho
      replace hM := Lib.hid hM
      have hN := Lib.hid hn
      have q2 := fun s' => over_cell k2 s'
      have q3 := fun s' => over_cell c3 s'
      have e1 : IntKind.i64.wrap ((m : Int) - (x.length : Int)) = (m : Int) - (x.length : Int) := IntWalk.i64_in _ (by omega)
      have e2 : IntKind.i64.wrap (r - (t.length : Int)) = r - (t.length : Int) := IntWalk.i64_in _ (by omega)
      clear hA c0 c3 hn
      cases hb with
      | true =>
        go_wp2_with fail
        refine (hnm.out _).mono ?_
        rintro e w' ⟨rfl, rfl⟩
        go_wp2_with fail
        clear k1 k2
        haveI := over_nonempty w1
        refine quiet_over (by kernel_rfl) (by kernel_rfl) ?_
        repeat (first | go_big_quiet_step (fail))
        refine wpQuiet_nil ?_
        rintro _ ⟨s6, rfl⟩
        have q0' := q0 s6
        go_wp2_with (at_len; refine wpList_len_own _ rfl (.tmp 31) 72 rfl 9 9 Tryd.underlying72 (plainElem (H := Unit) Tryd.prog 9) bn n S.now rfl (hln.out s6) ?_; rw [hln'.out]; go_frame)
        have p0 := fun s' : Over s6.1 => over_cell (q0 s6) s'
        have p2 := fun s' : Over s6.1 => over_cell (q2 s6) s'
        have p3 := fun s' : Over s6.1 => over_cell (q3 s6) s'
        have hsz' : Hid (∀ s' : Over s6.1, Calls Tryd.prog 66 #[.map (some bn)] s'.1 fun e w' => e = .returned (.int .i64 (m : Int)) ∧ Below s'.1.heap.size s'.1 w') := Lib.hid (fun s' => hsz.out ⟨s'.1, s6.2.trans (s'.2.mono s6.2.size)⟩)
        clear q0 q1 q2 q3 hlook hsz q0'
        haveI := over_nonempty s6.1
        unfold strV at p2 ⊢
        by_cases hc : r - (t.length : Int) < (m : Int) - (x.length : Int)
        · have d1 : decide (r - (t.length : Int) < (m : Int) - (x.length : Int)) = true := by simpa using hc
          have hF : Hid (fullB S.tick s t = true) := Lib.hid (by rw [hfb.out, d1]; rfl)
          clear hc
          refine quiet_over (by kernel_rfl) (by kernel_rfl) ?_
          repeat (first | go_big_quiet_step (first | (go_at_call 66; exact calls_over _ (hsz'.out _))))
          refine wpQuiet_nil ?_
          rintro _ ⟨s7, rfl⟩
          go_wp2
          go_ret
          refine ⟨ret_int (by simp [Call.errno, ho.out, Call.err, hN.out, hF.out]), ?_⟩
          rw [show (Call.write s t).turn S = S.tick from by simp [Call.turn, ho.out, Call.err, hN.out, hF.out]]
          exact hend.out _ (s6.2.trans (s7.2.mono s6.2.size))
        · have d1 : decide (r - (t.length : Int) < (m : Int) - (x.length : Int)) = false := by simpa using hc
          have htr : Hid (t.length ≤ 16777216) := Lib.hid (by omega)
          clear hc
          by_cases hd : 600 < n
          · have d2 : decide ((600 : Int) < (n : Int)) = true := by simp; omega
            have hF : Hid (fullB S.tick s t = true) := Lib.hid (by rw [hfb.out, d1]; simp; omega)
            clear hd
            refine quiet_over (by kernel_rfl) (by kernel_rfl) ?_
            repeat (first | go_big_quiet_step (first | (go_at_call 66; exact calls_over _ (hsz'.out _))))
            refine wpQuiet_nil ?_
            rintro _ ⟨s7, rfl⟩
            go_wp2
            go_ret
            refine ⟨ret_int (by simp [Call.errno, ho.out, Call.err, hN.out, hF.out]), ?_⟩
            rw [show (Call.write s t).turn S = S.tick from by simp [Call.turn, ho.out, Call.err, hN.out, hF.out]]
            exact hend.out _ (s6.2.trans (s7.2.mono s6.2.size))
          · have d2 : decide ((600 : Int) < (n : Int)) = false := by simp; omega
            have hF : Hid (fullB S.tick s t = false) := Lib.hid (by rw [hfb.out, d1]; simp; omega)
            clear hd
            refine quiet_over (by kernel_rfl) (by kernel_rfl) ?_
            repeat (first | go_big_quiet_step (first | (go_at_call 66; exact calls_over _ (hsz'.out _))))
            refine wpQuiet_nil ?_
            rintro _ ⟨s7, rfl⟩
            have hb7 : Below w1.heap.size w1 s7.1 := s6.2.trans (s7.2.mono s6.2.size)
            have hB1q := hB1'.out.below hb7 hB1'.out.lt
            have hB2q := hB2'.out.below hb7 hB2'.out.lt
            have hd7 := hd1.out.below hb7
            replace hb7 := Lib.hid hb7
            replace hB1q := Lib.hid hB1q
            replace hB2q := Lib.hid hB2q
            replace hd7 := Lib.hid hd7
            go_wp2_with fail
            refine (hdoes.out _ _ hd7.out ⟨_, _, rfl, hB2q.out, hB1q.out⟩ ⟨hs80, htr.out⟩ (by rw [tick_now, ← hnn.out]; omega) (by rw [tick_pend]; exact hA'.out.few2)).mono ?_
            rintro e w8 ⟨rfl, hD8⟩
            replace hD8 := Lib.hid hD8
            go_wp2
            go_ret
            refine ⟨ret_int (by simp [Call.errno, ho.out, Call.err, hN.out, hF.out]), ?_⟩
            rw [show (Call.write s t).turn S = S.tick.does (.write s t) from by simp [Call.turn, ho.out, Call.err, hN.out, hF.out, Call.done]]
            exact Turned.then (htt.out.trans (Touch.ofBelow (L := foot g bn bs v) hb7.out) (fun i hi => .inl hi)) (fun i hi => .inl hi) hD8.out.turned
      | false =>
        go_wp2_with fail
        refine (hnm.out _).mono ?_
        rintro e w' ⟨rfl, rfl⟩
        go_wp2_with fail
        clear k1 k2
        haveI := over_nonempty w1
        refine quiet_over (by kernel_rfl) (by kernel_rfl) ?_
        repeat (first | go_big_quiet_step (fail))
        refine wpQuiet_nil ?_
        rintro _ ⟨s6, rfl⟩
        have q0' := q0 s6
        go_wp2_with (at_len; refine wpList_len_own _ rfl (.tmp 31) 72 rfl 9 9 Tryd.underlying72 (plainElem (H := Unit) Tryd.prog 9) bn n S.now rfl (hln.out s6) ?_; rw [hln'.out]; go_frame)
        have p0 := fun s' : Over s6.1 => over_cell (q0 s6) s'
        have p2 := fun s' : Over s6.1 => over_cell (q2 s6) s'
        have p3 := fun s' : Over s6.1 => over_cell (q3 s6) s'
        have hsz' : Hid (∀ s' : Over s6.1, Calls Tryd.prog 66 #[.map (some bn)] s'.1 fun e w' => e = .returned (.int .i64 (m : Int)) ∧ Below s'.1.heap.size s'.1 w') := Lib.hid (fun s' => hsz.out ⟨s'.1, s6.2.trans (s'.2.mono s6.2.size)⟩)
        clear q0 q1 q2 q3 hlook hsz q0'
        haveI := over_nonempty s6.1
        unfold strV at p2 ⊢
        by_cases hc : r - (t.length : Int) < (m : Int) - (x.length : Int)
        · have d1 : decide (r - (t.length : Int) < (m : Int) - (x.length : Int)) = true := by simpa using hc
          have hF : Hid (fullB S.tick s t = true) := Lib.hid (by rw [hfb.out, d1]; rfl)
          clear hc
          refine quiet_over (by kernel_rfl) (by kernel_rfl) ?_
          repeat (first | go_big_quiet_step (first | (go_at_call 66; exact calls_over _ (hsz'.out _))))
          refine wpQuiet_nil ?_
          rintro _ ⟨s7, rfl⟩
          go_wp2
          go_ret
          refine ⟨ret_int (by simp [Call.errno, ho.out, Call.err, hN.out, hF.out]), ?_⟩
          rw [show (Call.write s t).turn S = S.tick from by simp [Call.turn, ho.out, Call.err, hN.out, hF.out]]
          exact hend.out _ (s6.2.trans (s7.2.mono s6.2.size))
        · have d1 : decide (r - (t.length : Int) < (m : Int) - (x.length : Int)) = false := by simpa using hc
          have htr : Hid (t.length ≤ 16777216) := Lib.hid (by omega)
          clear hc
          by_cases hd : 600 < n + 1
          · have d2 : decide ((600 : Int) < (n : Int) + 1) = true := by simp; omega
            have hF : Hid (fullB S.tick s t = true) := Lib.hid (by rw [hfb.out, d1]; simp; omega)
            clear hd
            refine quiet_over (by kernel_rfl) (by kernel_rfl) ?_
            repeat (first | go_big_quiet_step (first | (go_at_call 66; exact calls_over _ (hsz'.out _))))
            refine wpQuiet_nil ?_
            rintro _ ⟨s7, rfl⟩
            go_wp2
            go_ret
            refine ⟨ret_int (by simp [Call.errno, ho.out, Call.err, hN.out, hF.out]), ?_⟩
            rw [show (Call.write s t).turn S = S.tick from by simp [Call.turn, ho.out, Call.err, hN.out, hF.out]]
            exact hend.out _ (s6.2.trans (s7.2.mono s6.2.size))
          · have d2 : decide ((600 : Int) < (n : Int) + 1) = false := by simp; omega
            have hF : Hid (fullB S.tick s t = false) := Lib.hid (by rw [hfb.out, d1]; simp; omega)
            clear hd
            refine quiet_over (by kernel_rfl) (by kernel_rfl) ?_
            repeat (first | go_big_quiet_step (first | (go_at_call 66; exact calls_over _ (hsz'.out _))))
            refine wpQuiet_nil ?_
            rintro _ ⟨s7, rfl⟩
            have hb7 : Below w1.heap.size w1 s7.1 := s6.2.trans (s7.2.mono s6.2.size)
            have hB1q := hB1'.out.below hb7 hB1'.out.lt
            have hB2q := hB2'.out.below hb7 hB2'.out.lt
            have hd7 := hd1.out.below hb7
            replace hb7 := Lib.hid hb7
            replace hB1q := Lib.hid hB1q
            replace hB2q := Lib.hid hB2q
            replace hd7 := Lib.hid hd7
            go_wp2_with fail
            refine (hdoes.out _ _ hd7.out ⟨_, _, rfl, hB2q.out, hB1q.out⟩ ⟨hs80, htr.out⟩ (by rw [tick_now, ← hnn.out]; omega) (by rw [tick_pend]; exact hA'.out.few2)).mono ?_
            rintro e w8 ⟨rfl, hD8⟩
            replace hD8 := Lib.hid hD8
            go_wp2
            go_ret
            refine ⟨ret_int (by simp [Call.errno, ho.out, Call.err, hN.out, hF.out]), ?_⟩
            rw [show (Call.write s t).turn S = S.tick.does (.write s t) from by simp [Call.turn, ho.out, Call.err, hN.out, hF.out, Call.done]]
            exact Turned.then (htt.out.trans (Touch.ofBelow (L := foot g bn bs v) hb7.out) (fun i hi => .inl hi)) (fun i hi => .inl hi) hD8.out.turned
end Go.Proofs.YtlenmkemjaaaoaaDoor
