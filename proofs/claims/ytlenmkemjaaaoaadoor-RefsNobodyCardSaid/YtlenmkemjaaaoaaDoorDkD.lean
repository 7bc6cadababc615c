/- The walks of Remove and Rename. -/
import Derived.Test.YtlenmkemjaaaoaaDoorDkC
namespace Go.Proofs.YtlenmkemjaaaoaaDoor
open Go.RowKit Go.Maps Go.Sort

set_option maxRecDepth 100000 in
set_option maxHeartbeats 2000000 in
theorem remove_any (g bn bs : Nat) (v : Value) (S : DS) (s : List UInt8) (w : World) (h : DiskAt w g bn bs v S) (hA : Asked S) (hs : s.length ≤ 140737488355328) :
    Calls Tryd.prog 57 #[.pointer (some ⟨g, 0, none⟩), strV s] w fun e w' => e = .returned (.int .i64 ((Call.remove s).errno S)) ∧ Turned w (foot g bn bs v) g ((Call.remove s).turn S) w' := by
  have hbl : Below w.heap.size w (w.alloc (.cells #[strV s] 9)) := (Below.refl _ _).alloc (Nat.le_refl _) _
  have hB1 : Blk (w.alloc (.cells #[strV s] 9)) w.heap.size 9 [strV s] := boxedD s
  have hd0 := h.below hbl
  have hA' := Lib.hid hA
  replace h := Lib.hid h
  go_enter Tryd.func57, Tryd.ntmps57
  go_wp2_with fail
  generalize (w.alloc (.cells #[strV s] 9)) = w0 at hbl hB1 hd0 ⊢
  refine (power_write g bn bs v S w0 hd0 hA.fuse0 hA.fuse1).mono ?_
  rintro e w1 ⟨rfl, hd1, ht1, hz1⟩
  have hB1' := hB1.touch ht1 (by have := hB1.ne_ hd0.blk (by decide); simpa using this)
  have htt : Touch (foot g bn bs v) w w1 := (Touch.ofBelow hbl).trans ht1 (fun i hi => .inl (by have : i = g := (by simpa using hi); rw [this]; simp [foot]))
  have hend : ∀ w', Below w1.heap.size w1 w' → Turned w (foot g bn bs v) g S.tick w' := fun w' hb => Turned.then htt (fun i hi => .inl hi) (Turned.same ⟨bn, bs, v, hd1, rfl⟩ hb)
  replace hend := Lib.hid hend
  clear hbl hB1 hd0 ht1 hz1
  cases ho : S.tick.off with
  | true =>
    have hp : Hid (S.powE = 15) := Lib.hid (by simp [DS.powE, ho])
    have he : Hid ((Call.remove s).errno S = 15) := Lib.hid (by simp [Call.errno, ho])
    have hu : Hid ((Call.remove s).turn S = S.tick) := Lib.hid (by simp [Call.turn, ho])
    rw [hp.out]
    clear hA ho htt hd1 hB1' 
    go_wp2
    go_ret
    rw [hu.out]
    exact ⟨ret_int he.out.symm, hend.out _ (Below.refl _ _)⟩
  | false =>
    have hp : Hid (S.powE = 0) := Lib.hid (by simp [DS.powE, ho])
    rw [hp.out]
    have k1 : w1.cell? ⟨w.heap.size, 0, none⟩ = some (strV s) := by rw [hB1'.cell]; rfl
    have hnm := Lib.hid (fun w => name_any s w hs)
    cases hn : nameB s with
    | false =>
      have he : Hid ((Call.remove s).errno S = 11) := Lib.hid (by simp [Call.errno, ho, Call.err, hn])
      have hu : Hid ((Call.remove s).turn S = S.tick) := Lib.hid (by simp [Call.turn, ho, Call.err, hn])
      rw [hn] at hnm
      clear hA ho htt hd1 hB1' hn
      go_wp2_with fail
      refine (hnm.out _).mono ?_
      rintro e w' ⟨rfl, rfl⟩
      go_wp2
      go_ret
      rw [hu.out]
      exact ⟨ret_int he.out.symm, hend.out _ (Below.refl _ _)⟩
    | true =>
      rw [hn] at hnm
      have hM := hd1.now
      have c0 : w1.cell? ⟨g, 0, none⟩ = some (.map (some bn)) := by rw [hd1.blk.cell]; rfl
      rw [tick_now] at hM
      have hs80 : s.length ≤ 80 := by simp [nameB] at hn; exact hn.2
      have q0 := fun s' => over_cell c0 s'
      have q1 := fun s' => over_cell k1 s'
      have hlook : ∀ s' : Over w1, (Instr.lookup 72 (.map (some bn)) (strV s) true).run Tryd.prog s'.1 = .ok (.tuple #[strV (fS S.now s), .bool (fHas S.now s)]) s'.1 := fun s' => (hM.over s').look (max_80 hs80)
      have hdoes := Lib.hid (does_any g bn bs v S.tick (.remove s))
      have hfew := hA.few
      obtain ⟨x, hx⟩ : ∃ x, x = fS S.now s := ⟨_, rfl⟩
      obtain ⟨hb, hhb⟩ : ∃ hb, hb = fHas S.now s := ⟨_, rfl⟩
      rw [← hx, ← hhb] at hlook
      replace hx := Lib.hid hx
      replace hhb := Lib.hid hhb
      replace hd1 := Lib.hid hd1
      replace hB1' := Lib.hid hB1'
      replace htt := Lib.hid htt
      replace ho := Lib.hid ho
      replace hfew := Lib.hid hfew
      have hN := Lib.hid hn
      clear hA c0 hM hn
      cases hb with
      | true =>
        go_wp2_with fail
        refine (hnm.out _).mono ?_
        rintro e w' ⟨rfl, rfl⟩
        go_wp2_with fail
        haveI := over_nonempty w1
        refine quiet_over (by kernel_rfl) (by kernel_rfl) ?_
        repeat (first | go_big_quiet_step (fail))
        refine wpQuiet_nil ?_
        rintro _ ⟨s7, rfl⟩
        have hb7 : Below w1.heap.size w1 s7.1 := s7.2
        have hB1q := hB1'.out.below hb7 hB1'.out.lt
        have hd7 := hd1.out.below hb7
        replace hb7 := Lib.hid hb7
        replace hB1q := Lib.hid hB1q
        replace hd7 := Lib.hid hd7
        go_wp2_with fail
        refine (hdoes.out _ _ hd7.out ⟨_, rfl, hB1q.out⟩ hs80 (by rw [tick_now]; have := hfew.out; omega) (by rw [tick_pend]; exact hA'.out.few2)).mono ?_
        rintro e w8 ⟨rfl, hD8⟩
        replace hD8 := Lib.hid hD8
        go_wp2
        go_ret
        refine ⟨ret_int (by simp [Call.errno, ho.out, Call.err, hN.out, tick_now, ← hhb.out]), ?_⟩
        rw [show (Call.remove s).turn S = S.tick.does (.remove s) from by simp [Call.turn, ho.out, Call.err, hN.out, tick_now, ← hhb.out, Call.done]]
        exact Turned.then (htt.out.trans (Touch.ofBelow (L := foot g bn bs v) hb7.out) (fun i hi => .inl hi)) (fun i hi => .inl hi) hD8.out.turned
      | false =>
        go_wp2_with fail
        refine (hnm.out _).mono ?_
        rintro e w' ⟨rfl, rfl⟩
        go_wp2_with fail
        haveI := over_nonempty w1
        refine quiet_over (by kernel_rfl) (by kernel_rfl) ?_
        repeat (first | go_big_quiet_step (fail))
        refine wpQuiet_nil ?_
        rintro _ ⟨s7, rfl⟩
        go_wp2
        go_ret
        refine ⟨ret_int (by simp [Call.errno, ho.out, Call.err, hN.out, tick_now, ← hhb.out]), ?_⟩
        rw [show (Call.remove s).turn S = S.tick from by simp [Call.turn, ho.out, Call.err, hN.out, tick_now, ← hhb.out]]
        exact hend.out _ s7.2
set_option maxRecDepth 100000 in
set_option maxHeartbeats 2000000 in
theorem rename_any (g bn bs : Nat) (v : Value) (S : DS) (s t : List UInt8) (w : World) (h : DiskAt w g bn bs v S) (hA : Asked S) (hs : s.length ≤ 140737488355328) (ht : t.length ≤ 140737488355328) :
    Calls Tryd.prog 61 #[.pointer (some ⟨g, 0, none⟩), strV s, strV t] w fun e w' => e = .returned (.int .i64 ((Call.rename s t).errno S)) ∧ Turned w (foot g bn bs v) g ((Call.rename s t).turn S) w' := by
  have hbl : Below w.heap.size w ((w.alloc (.cells #[strV s] 9)).alloc (.cells #[strV t] 9)) := ((Below.refl _ _).alloc (Nat.le_refl _) _).alloc (by simp) _
  have hB1 : Blk ((w.alloc (.cells #[strV s] 9)).alloc (.cells #[strV t] 9)) w.heap.size 9 [strV s] := (boxedD s).alloc _
  have hB2 : Blk ((w.alloc (.cells #[strV s] 9)).alloc (.cells #[strV t] 9)) (w.heap.size + 1) 9 [strV t] := Blk.new_at (cs := [strV t]) (by simp)
  have hd0 := h.below hbl
  have hA' := Lib.hid hA
  replace h := Lib.hid h
  go_enter Tryd.func61, Tryd.ntmps61
  go_wp2_with fail
  generalize ((w.alloc (.cells #[strV s] 9)).alloc (.cells #[strV t] 9)) = w0 at hbl hB1 hB2 hd0 ⊢
  refine (power_write g bn bs v S w0 hd0 hA.fuse0 hA.fuse1).mono ?_
  rintro e w1 ⟨rfl, hd1, ht1, hz1⟩
  have hB1' := hB1.touch ht1 (by have := hB1.ne_ hd0.blk (by decide); simpa using this)
  have hB2' := hB2.touch ht1 (by have := hB2.ne_ hd0.blk (by decide); simpa using this)
  have htt : Touch (foot g bn bs v) w w1 := (Touch.ofBelow hbl).trans ht1 (fun i hi => .inl (by have : i = g := (by simpa using hi); rw [this]; simp [foot]))
  have hend : ∀ w', Below w1.heap.size w1 w' → Turned w (foot g bn bs v) g S.tick w' := fun w' hb => Turned.then htt (fun i hi => .inl hi) (Turned.same ⟨bn, bs, v, hd1, rfl⟩ hb)
  replace hend := Lib.hid hend
  clear hbl hB1 hB2 hd0 ht1 hz1
  cases ho : S.tick.off with
  | true =>
    have hp : Hid (S.powE = 15) := Lib.hid (by simp [DS.powE, ho])
    have he : Hid ((Call.rename s t).errno S = 15) := Lib.hid (by simp [Call.errno, ho])
    have hu : Hid ((Call.rename s t).turn S = S.tick) := Lib.hid (by simp [Call.turn, ho])
    rw [hp.out]
    clear hA ho htt hd1 hB1' hB2'
    go_wp2
    go_ret
    rw [hu.out]
    exact ⟨ret_int he.out.symm, hend.out _ (Below.refl _ _)⟩
  | false =>
    have hp : Hid (S.powE = 0) := Lib.hid (by simp [DS.powE, ho])
    rw [hp.out]
    have k1 : w1.cell? ⟨w.heap.size, 0, none⟩ = some (strV s) := by rw [hB1'.cell]; rfl
    have k2 : w1.cell? ⟨w.heap.size + 1, 0, none⟩ = some (strV t) := by rw [hB2'.cell]; rfl
    have hnm2 := Lib.hid (fun w => name_any t w ht)
    have hnm := Lib.hid (fun w => name_any s w hs)
    cases hn : nameB s with
    | false =>
      have he : Hid ((Call.rename s t).errno S = 11) := Lib.hid (by simp [Call.errno, ho, Call.err, hn])
      have hu : Hid ((Call.rename s t).turn S = S.tick) := Lib.hid (by simp [Call.turn, ho, Call.err, hn])
      rw [hn] at hnm
      clear hA ho htt hd1 hB1' hB2' hn
      go_wp2_with fail
      refine (hnm.out _).mono ?_
      rintro e w' ⟨rfl, rfl⟩
      go_wp2
      go_ret
      rw [hu.out]
      exact ⟨ret_int he.out.symm, hend.out _ (Below.refl _ _)⟩
    | true =>
      rw [hn] at hnm
      cases hn2 : nameB t with
      | false =>
        have he : Hid ((Call.rename s t).errno S = 11) := Lib.hid (by simp [Call.errno, ho, Call.err, hn, hn2])
        have hu : Hid ((Call.rename s t).turn S = S.tick) := Lib.hid (by simp [Call.turn, ho, Call.err, hn, hn2])
        rw [hn2] at hnm2
        clear hA ho htt hd1 hB1' hB2' hn hn2
        go_wp2_with fail
        refine (hnm.out _).mono ?_
        rintro e w' ⟨rfl, rfl⟩
        go_wp2_with fail
        refine (hnm2.out _).mono ?_
        rintro e w' ⟨rfl, rfl⟩
        go_wp2
        go_ret
        rw [hu.out]
        exact ⟨ret_int he.out.symm, hend.out _ (Below.refl _ _)⟩
      | true =>
        rw [hn2] at hnm2
        have hM := hd1.now
        have c0 : w1.cell? ⟨g, 0, none⟩ = some (.map (some bn)) := by rw [hd1.blk.cell]; rfl
        rw [tick_now] at hM
        have hs80 : s.length ≤ 80 := by simp [nameB] at hn; exact hn.2
        have ht80 : t.length ≤ 80 := by simp [nameB] at hn2; exact hn2.2
        have q0 := fun s' => over_cell c0 s'
        have q1 := fun s' => over_cell k1 s'
        have hlook : ∀ s' : Over w1, (Instr.lookup 72 (.map (some bn)) (strV s) true).run Tryd.prog s'.1 = .ok (.tuple #[strV (fS S.now s), .bool (fHas S.now s)]) s'.1 := fun s' => (hM.over s').look (max_80 hs80)
        have hdoes := Lib.hid (does_any g bn bs v S.tick (.rename s t))
        have hfew := hA.few
        obtain ⟨x, hx⟩ : ∃ x, x = fS S.now s := ⟨_, rfl⟩
        obtain ⟨hb, hhb⟩ : ∃ hb, hb = fHas S.now s := ⟨_, rfl⟩
        rw [← hx, ← hhb] at hlook
        replace hx := Lib.hid hx
        replace hhb := Lib.hid hhb
        replace hd1 := Lib.hid hd1
        replace hB1' := Lib.hid hB1'
        replace hB2' := Lib.hid hB2'
        replace htt := Lib.hid htt
        replace ho := Lib.hid ho
        replace hfew := Lib.hid hfew
        have hN := Lib.hid hn
        have hN2 := Lib.hid hn2
        clear hA c0 hM hn hn2
        cases hb with
        | true =>
          go_wp2_with fail
          refine (hnm.out _).mono ?_
          rintro e w' ⟨rfl, rfl⟩
          go_wp2_with fail
          refine (hnm2.out _).mono ?_
          rintro e w' ⟨rfl, rfl⟩
          go_wp2_with fail
          haveI := over_nonempty w1
          refine quiet_over (by kernel_rfl) (by kernel_rfl) ?_
          repeat (first | go_big_quiet_step (fail))
          refine wpQuiet_nil ?_
          rintro _ ⟨s7, rfl⟩
          have hb7 : Below w1.heap.size w1 s7.1 := s7.2
          have hB1q := hB1'.out.below hb7 hB1'.out.lt
          have hB2q := hB2'.out.below hb7 hB2'.out.lt
          have hd7 := hd1.out.below hb7
          replace hb7 := Lib.hid hb7
          replace hB1q := Lib.hid hB1q
          replace hB2q := Lib.hid hB2q
          replace hd7 := Lib.hid hd7
          go_wp2_with fail
          refine (hdoes.out _ _ hd7.out ⟨_, _, rfl, hB1q.out, hB2q.out⟩ ⟨hs80, ht80⟩ (by rw [tick_now]; have := hfew.out; omega) (by rw [tick_pend]; exact hA'.out.few2)).mono ?_
          rintro e w8 ⟨rfl, hD8⟩
          replace hD8 := Lib.hid hD8
          go_wp2
          go_ret
          refine ⟨ret_int (by simp [Call.errno, ho.out, Call.err, hN.out, hN2.out, tick_now, ← hhb.out]), ?_⟩
          rw [show (Call.rename s t).turn S = S.tick.does (.rename s t) from by simp [Call.turn, ho.out, Call.err, hN.out, hN2.out, tick_now, ← hhb.out, Call.done]]
          exact Turned.then (htt.out.trans (Touch.ofBelow (L := foot g bn bs v) hb7.out) (fun i hi => .inl hi)) (fun i hi => .inl hi) hD8.out.turned
        | false =>
          go_wp2_with fail
          refine (hnm.out _).mono ?_
          rintro e w' ⟨rfl, rfl⟩
          go_wp2_with fail
          refine (hnm2.out _).mono ?_
          rintro e w' ⟨rfl, rfl⟩
          go_wp2_with fail
          haveI := over_nonempty w1
          refine quiet_over (by kernel_rfl) (by kernel_rfl) ?_
          repeat (first | go_big_quiet_step (fail))
          refine wpQuiet_nil ?_
          rintro _ ⟨s7, rfl⟩
          go_wp2
          go_ret
          refine ⟨ret_int (by simp [Call.errno, ho.out, Call.err, hN.out, hN2.out, tick_now, ← hhb.out]), ?_⟩
          rw [show (Call.rename s t).turn S = S.tick from by simp [Call.turn, ho.out, Call.err, hN.out, hN2.out, tick_now, ← hhb.out]]
          exact hend.out _ s7.2
end Go.Proofs.YtlenmkemjaaaoaaDoor
