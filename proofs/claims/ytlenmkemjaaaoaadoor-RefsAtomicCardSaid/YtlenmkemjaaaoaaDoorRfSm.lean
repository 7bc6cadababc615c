/- The walk of the reference's Same: two tables. -/
import Derived.Test.YtlenmkemjaaaoaaDoorRs
namespace Go.Proofs.YtlenmkemjaaaoaaDoor
open Go.RowKit
attribute [local go_sem] toL
instance brEq : DecidableEq Br := fun a b => decidable_of_iff (a.name = b.name ∧ a.heads = b.heads) ⟨fun h => by
  cases a; cases b
  simp only at h
  rw [h.1, h.2], fun h => by rw [h]; exact ⟨rfl, rfl⟩⟩
theorem take_ne {T U : Tab} {k : Nat} (h1 : k < T.length) (h2 : k < U.length) (h : T[k] ≠ U[k]) : T ≠ U := fun e => by
  subst e; exact h rfl
theorem aggBool (w : World) : (isAgg 4).run Tryd.prog w = .ok false w := by kernel_rfl
set_option maxRecDepth 100000 in
set_option maxHeartbeats 8000000 in
theorem rsame_any (T U : Tab) (v u : Value) (ok ok' : Nat → Prop) (w : World) (h : TabIs w ok v T) (h' : TabIs w ok' u U) (hf : TFit T) (hf' : TFit U) :
    Calls Tryd.prog 19 #[v, u] w fun e w' => e = .returned (.bool (decide (T = U))) ∧ Below w.heap.size w w' := by
  obtain ⟨A, c, rfl, hc⟩ := h.form
  obtain ⟨A', c', rfl, hc'⟩ := h'.form
  have hlT := hf.len
  have hlU := hf'.len
  have hT := Lib.hid (fun W (hb : Below w.heap.size w W) => h.stayB hb)
  have hU := Lib.hid (fun W (hb : Below w.heap.size w W) => h'.stayB hb)
  replace hf := Lib.hid hf.ok
  replace hf' := Lib.hid hf'.ok
  clear h h' hc hc'
  by_cases hl' : T.length = U.length
  · have hl := Lib.hid hl'
    have g0 : ((T.length : Int) != (U.length : Int)) = false := by rw [hl']; simp
    have hl2 : U.length = T.length := hl'.symm
    clear hl'
    replace hl2 := Lib.hid hl2
    go_enter Tryd.func19, Tryd.ntmps19
    go_wp2
    go_loopw [5] (fun i wr => ∃ k : Nat, k ≤ T.length ∧ i = .int .i64 k ∧ Hid (T.take k = U.take k) ∧ Below w.heap.size w wr) (fun i _ => T.length - (intOf i).toNat)
    case atStart => exact ⟨0, Nat.zero_le _, rfl, Lib.hid rfl, Below.refl _ _⟩
    case round =>
      obtain ⟨k, hk, rfl, hEq, hb⟩ := hrel
      by_cases hlt : k < T.length
      · have hlt' : k < U.length := by rw [hl2.out]; exact hlt
        obtain ⟨b1, o1, u1, rfl, _, hbl1, hX, c0, c1⟩ := (hT.out wr hb).br k hlt
        obtain ⟨b2, o2, u2, rfl, _, hbl2, hY, d0, d1⟩ := (hU.out wr hb).br k hlt'
        have hf1 := hf.out T[k] (List.getElem_mem hlt)
        have hf2 := hf'.out U[k] (List.getElem_mem hlt')
        have hne := Lib.hid (take_ne hlt hlt')
        have hnx : Hid (T[k] = U[k] → T.take (k + 1) = U.take (k + 1)) := Lib.hid (fun e => by rw [take_at hlt, take_at hlt', hEq.out, e])
        obtain ⟨B1, hB1⟩ : ∃ B1, B1 = T[k] := ⟨_, rfl⟩
        obtain ⟨B2, hB2⟩ : ∃ B2, B2 = U[k] := ⟨_, rfl⟩
        rw [← hB1] at hX c0 hf1 hne hnx
        rw [← hB2] at hY d0 hf2 hne hnx
        clear hB1 hB2
        obtain ⟨m1, s1⟩ := B1
        obtain ⟨m2, s2⟩ := B2
        dsimp only at hX hY c0 d0
        obtain ⟨XA, xc, rfl, _, _⟩ := id hX
        obtain ⟨YA, yc, rfl, _, _⟩ := id hY
        unfold strV at c0 d0
        have hl1 := hf1.heads
        have hl2 := hf2.heads
        dsimp only at hl1 hl2
        have i1 : (0 : Int) ≤ (k : Int) := by omega
        have i2 : (k : Int) < (T.length : Int) := by omega
        have i3 : (k : Int) < (U.length : Int) := by omega
        have hx0 : Hid (∀ s : Over wr, s.1.cell? ⟨b1, o1 + k * 2, none⟩ = some (.string ⟨m1.toArray⟩)) := Lib.hid (fun s => by rw [s.2.cell (p := ⟨b1, o1 + k * 2, none⟩) hbl1]; exact c0)
        have hx1 : Hid (∀ s : Over wr, s.1.cell? ⟨b1, o1 + k * 2 + 1, none⟩ = some (.slice XA s1.length xc)) := Lib.hid (fun s => by rw [s.2.cell (p := ⟨b1, o1 + k * 2 + 1, none⟩) hbl1]; exact c1)
        have hy0 : Hid (∀ s : Over wr, s.1.cell? ⟨b2, o2 + k * 2, none⟩ = some (.string ⟨m2.toArray⟩)) := Lib.hid (fun s => by rw [s.2.cell (p := ⟨b2, o2 + k * 2, none⟩) hbl2]; exact d0)
        have hy1 : Hid (∀ s : Over wr, s.1.cell? ⟨b2, o2 + k * 2 + 1, none⟩ = some (.slice YA s2.length yc)) := Lib.hid (fun s => by rw [s.2.cell (p := ⟨b2, o2 + k * 2 + 1, none⟩) hbl2]; exact d1)
        have hsm := Lib.hid (fun s : Over wr => dsame_any s1 s2 (.slice XA s1.length xc) (.slice YA s2.length yc) _ _ s.1 (hX.stayB s.2) (hY.stayB s.2) hl1 hl2)
        obtain ⟨r, hr⟩ : ∃ r, r = decide (s1 = s2) := ⟨_, rfl⟩
        rw [← hr] at hsm
        replace hr := Lib.hid hr
        clear c1 d1 hX hY hf1 hf2
        by_cases hm : m1 = m2
        · have g1 : (m1 != m2) = false := by simpa using hm
          have g2 : (m1 == m2) = true := by simpa using hm
          replace hm := Lib.hid hm
          clear c0 d0
          go_wp2
          haveI := over_nonempty wr
          refine quiet_over (by kernel_rfl) (by kernel_rfl) ?_
          repeat (first
            | (refine wpQuiet_cell 9 (.tmp 20) rfl rfl b1 (o1 + k * 2) rfl (.string ⟨m1.toArray⟩) (fun w hw => ?_) aggStr ?_
               · obtain ⟨s, rfl⟩ := hw
                 exact hx0.out s
               go_frame)
            | (refine wpQuiet_cell 9 (.tmp 25) rfl rfl b2 (o2 + k * 2) rfl (.string ⟨m2.toArray⟩) (fun w hw => ?_) aggStr ?_
               · obtain ⟨s, rfl⟩ := hw
                 exact hy0.out s
               go_frame)
            | (refine wpQuiet_cell 44 (.tmp 32) rfl rfl b1 (o1 + k * 2 + 1) rfl (.slice XA s1.length xc) (fun w hw => ?_) aggHd ?_
               · obtain ⟨s, rfl⟩ := hw
                 exact hx1.out s
               go_frame)
            | (refine wpQuiet_cell 44 (.tmp 37) rfl rfl b2 (o2 + k * 2 + 1) rfl (.slice YA s2.length yc) (fun w hw => ?_) aggHd ?_
               · obtain ⟨s, rfl⟩ := hw
                 exact hy1.out s
               go_frame)
            | go_big_quiet_step ((go_at_call 24; exact calls_over _ (hsm.out _))))
          refine wpQuiet_nil ?_
          rintro _ ⟨s, rfl⟩
          have hb4 := hb.trans (s.2.mono hb.size)
          obtain ⟨w4, hw4⟩ := s
          dsimp only at hb4 ⊢
          clear this hw4 hx0 hx1 hy0 hy1 hsm
          cases hrv : r with
          | true =>
            have hgo : s1 = s2 := of_decide_eq_true (by rw [← hr.out, hrv])
            have hnext := Lib.hid (hnx.out (by rw [hm.out, hgo]))
            clear hr hrv hgo hnx hne
            go_wp2
            go_roundw
            case rel => exact ⟨k + 1, by omega, by go_num, hnext, hb4⟩
            case measure => simp [intOf]; omega
          | false =>
            have hgo : ¬ s1 = s2 := of_decide_eq_false (by rw [← hr.out, hrv])
            have hfin : Hid (decide (T = U) = false) := Lib.hid (decide_eq_false (hne.out (fun e => hgo (by injection e))))
            clear hr hrv hgo hnx hne
            go_wp2
            go_ret
            exact ⟨by rw [hfin.out]; rfl, hb4⟩
        · have g1 : (m1 != m2) = true := by simpa using hm
          have g2 : (m1 == m2) = false := by simpa using hm
          have hfin : Hid (decide (T = U) = false) := Lib.hid (decide_eq_false (hne.out (fun e => hm (by injection e))))
          clear hne hnx hm hx0 hx1 hy0 hy1 hsm hr
          go_wp2
          go_quiet (fail)
          go_wp2
          go_ret
          exact ⟨by rw [hfin.out]; rfl, below_drewN hb nq⟩
      · obtain rfl : k = T.length := by omega
        have hfin : Hid (decide (T = U) = true) := Lib.hid (decide_eq_true (by have := hEq.out; rw [List.take_length] at this; rw [this, hl.out, List.take_length]))
        go_wp2
        go_ret
        exact ⟨by rw [hfin.out]; rfl, hb⟩
  · have g0 : ((T.length : Int) != (U.length : Int)) = true := by simp; omega
    have hfin : Hid (decide (T = U) = false) := Lib.hid (decide_eq_false (fun e => hl' (by rw [e])))
    go_enter Tryd.func19, Tryd.ntmps19
    go_wp2
    go_ret
    exact ⟨by rw [hfin.out]; rfl, Below.refl _ _⟩
end Go.Proofs.YtlenmkemjaaaoaaDoor
