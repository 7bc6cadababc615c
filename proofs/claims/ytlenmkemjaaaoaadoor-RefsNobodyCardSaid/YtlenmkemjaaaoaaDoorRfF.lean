/- The walks of slices.Equal at digests and of the reference's Same. -/
import Derived.Test.YtlenmkemjaaaoaaDoorRjCD
namespace Go.Proofs.YtlenmkemjaaaoaaDoor
open Go.RowKit

set_option maxRecDepth 100000 in
set_option maxHeartbeats 4000000 in
theorem equal_any (x y : List Str) (v u : Value) (ok ok' : Nat → Prop) (w : World) (h : HdIs w ok v x) (h' : HdIs w ok' u y) (hx : HFit x) (hy : HFit y) :
    Calls Tryd.prog 76 #[v, u] w fun e w' => e = .returned (.bool (decide (x = y))) ∧ Below w.heap.size w w' := by
  obtain ⟨A, c, rfl, hc, hr⟩ := h
  obtain ⟨A', c', rfl, hc', hr'⟩ := h'
  have hX : Hid (HdIs w ok (.slice A x.length c) x) := Lib.hid ⟨A, c, rfl, hc, hr⟩
  have hY : Hid (HdIs w ok' (.slice A' y.length c') y) := Lib.hid ⟨A', c', rfl, hc', hr'⟩
  have hlx : x.length ≤ 4398046511104 := hx.len
  have hly : y.length ≤ 4398046511104 := hy.len
  have hox := Lib.hid hx.ok
  have hoy := Lib.hid hy.ok
  clear hr hr' hc hc' hx hy
  by_cases hl : x.length = y.length
  · have g0 : ((x.length : Int) != (y.length : Int)) = false := by simp [hl]
    replace hl := Lib.hid hl
    go_enter Tryd.func76, Tryd.ntmps76
    go_wp2
    go_loopw [13] (fun i wr => ∃ k : Nat, k ≤ x.length ∧ i = .int .i64 k ∧ Hid (x.take k = y.take k) ∧ Below w.heap.size w wr) (fun i _ => x.length - (intOf i).toNat)
    case atStart => exact ⟨0, Nat.zero_le _, rfl, Lib.hid rfl, Below.refl _ _⟩
    case round =>
      obtain ⟨k, hk, rfl, ht, hb⟩ := hrel
      by_cases hlt : k < x.length
      · have hlt' : k < y.length := by rw [← hl.out]; exact hlt
        obtain ⟨b1, o1, rfl, _, hb1, hc1⟩ := hX.out.dig hox.out k hlt
        obtain ⟨b2, o2, rfl, _, hb2, hc2⟩ := hY.out.dig hoy.out k hlt'
        have hxl := hox.out x[k] (List.getElem_mem hlt)
        have hyl := hoy.out y[k] (List.getElem_mem hlt')
        have hc1' : Hid (∀ n : Nat, ∀ j v, (x[k].map B)[j]? = some v → (wr.drewN n).cell? ⟨b1, o1 + k * 32 + j, none⟩ = some v) := Lib.hid (fun n j v hv => by
          show wr.cell? _ = _
          rw [hb.cell (p := ⟨b1, _, none⟩) hb1]; exact hc1 j v hv)
        have hc2' : Hid (∀ n : Nat, ∀ j v, (y[k].map B)[j]? = some v → (wr.drewN n).cell? ⟨b2, o2 + k * 32 + j, none⟩ = some v) := Lib.hid (fun n j v hv => by
          show wr.cell? _ = _
          rw [hb.cell (p := ⟨b2, _, none⟩) hb2]; exact hc2 j v hv)
        have hyes : Hid (x[k] = y[k] → x.take (k + 1) = y.take (k + 1)) := Lib.hid (fun e => by rw [take_at hlt, take_at hlt', ht.out, e])
        have hno : Hid (x[k] ≠ y[k] → x ≠ y) := Lib.hid (fun hne e => hne (by subst e; rfl))
        obtain ⟨p, hp⟩ : ∃ p, p = x[k] := ⟨_, rfl⟩
        obtain ⟨q, hq⟩ : ∃ q, q = y[k] := ⟨_, rfl⟩
        rw [← hp] at hxl hc1' hyes hno
        rw [← hq] at hyl hc2' hyes hno
        clear hp hq hc1 hc2
        have hs1 := Lib.hid (digSz hxl)
        have hs2 := Lib.hid (digSz hyl)
        replace hxl := Lib.hid hxl
        replace hyl := Lib.hid hyl
        have i1 : (0 : Int) ≤ (k : Int) := by omega
        have i2 : (k : Int) < (x.length : Int) := by omega
        have i3 : (k : Int) < (y.length : Int) := by omega
        obtain ⟨t, htt⟩ : ∃ t, t = (!(p == q)) := ⟨_, rfl⟩
        replace htt := Lib.hid htt
        go_wp2
        refine wp_region_quiet_lit (by kernel_rfl) (by kernel_rfl) ?_
        repeat (first
          | (refine wpQuiet_load_at 57 (.tmp 18) rfl rfl b1 (o1 + k * 32) rfl (p.map B) (fun w hw => ?_) _ Tryd.underlying57 rfl hs1.out ?_
             · obtain ⟨n, rfl⟩ := hw
               exact hc1'.out n
             go_frame)
          | (refine wpQuiet_load_at 57 (.tmp 22) rfl rfl b2 (o2 + k * 32) rfl (q.map B) (fun w hw => ?_) _ Tryd.underlying57 rfl hs2.out ?_
             · obtain ⟨n, rfl⟩ := hw
               exact hc2'.out n
             go_frame)
          | (refine wpQuiet_neq_dig (.tmp 19) (.tmp 23) _ rfl rfl p q rfl rfl hxl.out hyl.out t htt.out.symm ?_; go_frame)
          | go_big_quiet_step (fail))
        refine wpQuiet_nil ?_
        rintro _ ⟨nq, rfl⟩
        cases t with
        | true =>
          have hne : Hid (x ≠ y) := Lib.hid (hno.out (fun e => by have := htt.out; rw [e] at this; simp at this))
          go_wp2
          go_ret
          exact ⟨by rw [decide_eq_false hne.out]; rfl, below_drewN hb nq⟩
        | false =>
          have hnx : Hid (x.take (k + 1) = y.take (k + 1)) := Lib.hid (hyes.out (by simpa using htt.out))
          go_wp2
          go_roundw
          case rel => exact ⟨k + 1, by omega, by go_num, hnx, below_drewN hb nq⟩
          case measure => simp [intOf]; omega
      · obtain rfl : k = x.length := by omega
        have he : Hid (x = y) := Lib.hid (by
          have := ht.out
          rwa [List.take_length, List.take_of_length_le (by rw [hl.out]; exact Nat.le_refl _)] at this)
        go_wp2
        go_ret
        exact ⟨by rw [decide_eq_true he.out]; rfl, hb⟩
  · have g0 : ((x.length : Int) != (y.length : Int)) = true := by simp; omega
    have hne : Hid (x ≠ y) := Lib.hid (fun e => hl (by rw [e]))
    clear hl
    go_enter Tryd.func76, Tryd.ntmps76
    go_wp2
    go_ret
    exact ⟨by rw [decide_eq_false hne.out]; rfl, Below.refl _ _⟩

set_option maxRecDepth 100000 in
set_option maxHeartbeats 4000000 in
theorem dsame_any (x y : List Str) (v u : Value) (ok ok' : Nat → Prop) (w : World) (h : HdIs w ok v x) (h' : HdIs w ok' u y) (hx : HFit x) (hy : HFit y) :
    Calls Tryd.prog 24 #[v, u] w fun e w' => e = .returned (.bool (decide (x = y))) ∧ Below w.heap.size w w' := by
  obtain ⟨A, c, rfl, hc, hr⟩ := h
  obtain ⟨A', c', rfl, hc', hr'⟩ := h'
  have hX : Hid (HdIs w ok (.slice A x.length c) x) := Lib.hid ⟨A, c, rfl, hc, hr⟩
  have hY : Hid (HdIs w ok' (.slice A' y.length c') y) := Lib.hid ⟨A', c', rfl, hc', hr'⟩
  have hlx : x.length ≤ 4398046511104 := hx.len
  have hly : y.length ≤ 4398046511104 := hy.len
  have hox := Lib.hid hx.ok
  have hoy := Lib.hid hy.ok
  clear hr hr' hc hc' hx hy
  by_cases hl : x.length = y.length
  · have g0 : ((x.length : Int) != (y.length : Int)) = false := by simp [hl]
    replace hl := Lib.hid hl
    go_enter Tryd.func24, Tryd.ntmps24
    go_wp2
    go_loopw [5] (fun i wr => ∃ k : Nat, k ≤ x.length ∧ i = .int .i64 k ∧ Hid (x.take k = y.take k) ∧ Below w.heap.size w wr) (fun i _ => x.length - (intOf i).toNat)
    case atStart => exact ⟨0, Nat.zero_le _, rfl, Lib.hid rfl, Below.refl _ _⟩
    case round =>
      obtain ⟨k, hk, rfl, ht, hb⟩ := hrel
      by_cases hlt : k < x.length
      · have hlt' : k < y.length := by rw [← hl.out]; exact hlt
        obtain ⟨b1, o1, rfl, _, hb1, hc1⟩ := hX.out.dig hox.out k hlt
        obtain ⟨b2, o2, rfl, _, hb2, hc2⟩ := hY.out.dig hoy.out k hlt'
        have hxl := hox.out x[k] (List.getElem_mem hlt)
        have hyl := hoy.out y[k] (List.getElem_mem hlt')
        have hc1' : Hid (∀ n : Nat, ∀ j v, (x[k].map B)[j]? = some v → (wr.drewN n).cell? ⟨b1, o1 + k * 32 + j, none⟩ = some v) := Lib.hid (fun n j v hv => by
          show wr.cell? _ = _
          rw [hb.cell (p := ⟨b1, _, none⟩) hb1]; exact hc1 j v hv)
        have hc2' : Hid (∀ n : Nat, ∀ j v, (y[k].map B)[j]? = some v → (wr.drewN n).cell? ⟨b2, o2 + k * 32 + j, none⟩ = some v) := Lib.hid (fun n j v hv => by
          show wr.cell? _ = _
          rw [hb.cell (p := ⟨b2, _, none⟩) hb2]; exact hc2 j v hv)
        have hyes : Hid (x[k] = y[k] → x.take (k + 1) = y.take (k + 1)) := Lib.hid (fun e => by rw [take_at hlt, take_at hlt', ht.out, e])
        have hno : Hid (x[k] ≠ y[k] → x ≠ y) := Lib.hid (fun hne e => hne (by subst e; rfl))
        obtain ⟨p, hp⟩ : ∃ p, p = x[k] := ⟨_, rfl⟩
        obtain ⟨q, hq⟩ : ∃ q, q = y[k] := ⟨_, rfl⟩
        rw [← hp] at hxl hc1' hyes hno
        rw [← hq] at hyl hc2' hyes hno
        clear hp hq hc1 hc2
        have hs1 := Lib.hid (digSz hxl)
        have hs2 := Lib.hid (digSz hyl)
        replace hxl := Lib.hid hxl
        replace hyl := Lib.hid hyl
        have i1 : (0 : Int) ≤ (k : Int) := by omega
        have i2 : (k : Int) < (x.length : Int) := by omega
        have i3 : (k : Int) < (y.length : Int) := by omega
        obtain ⟨t, htt⟩ : ∃ t, t = (!(p == q)) := ⟨_, rfl⟩
        replace htt := Lib.hid htt
        go_wp2
        refine wp_region_quiet_lit (by kernel_rfl) (by kernel_rfl) ?_
        repeat (first
          | (refine wpQuiet_load_at 57 (.tmp 19) rfl rfl b1 (o1 + k * 32) rfl (p.map B) (fun w hw => ?_) _ Tryd.underlying57 rfl hs1.out ?_
             · obtain ⟨n, rfl⟩ := hw
               exact hc1'.out n
             go_frame)
          | (refine wpQuiet_load_at 57 (.tmp 23) rfl rfl b2 (o2 + k * 32) rfl (q.map B) (fun w hw => ?_) _ Tryd.underlying57 rfl hs2.out ?_
             · obtain ⟨n, rfl⟩ := hw
               exact hc2'.out n
             go_frame)
          | (refine wpQuiet_neq_dig (.tmp 20) (.tmp 24) _ rfl rfl p q rfl rfl hxl.out hyl.out t htt.out.symm ?_; go_frame)
          | go_big_quiet_step (fail))
        refine wpQuiet_nil ?_
        rintro _ ⟨nq, rfl⟩
        cases t with
        | true =>
          have hne : Hid (x ≠ y) := Lib.hid (hno.out (fun e => by have := htt.out; rw [e] at this; simp at this))
          go_wp2
          go_ret
          exact ⟨by rw [decide_eq_false hne.out]; rfl, below_drewN hb nq⟩
        | false =>
          have hnx : Hid (x.take (k + 1) = y.take (k + 1)) := Lib.hid (hyes.out (by simpa using htt.out))
          go_wp2
          go_roundw
          case rel => exact ⟨k + 1, by omega, by go_num, hnx, below_drewN hb nq⟩
          case measure => simp [intOf]; omega
      · obtain rfl : k = x.length := by omega
        have he : Hid (x = y) := Lib.hid (by
          have := ht.out
          rwa [List.take_length, List.take_of_length_le (by rw [hl.out]; exact Nat.le_refl _)] at this)
        go_wp2
        go_ret
        exact ⟨by rw [decide_eq_true he.out]; rfl, hb⟩
  · have g0 : ((x.length : Int) != (y.length : Int)) = true := by simp; omega
    have hne : Hid (x ≠ y) := Lib.hid (fun e => hl (by rw [e]))
    clear hl
    go_enter Tryd.func24, Tryd.ntmps24
    go_wp2
    go_ret
    exact ⟨by rw [decide_eq_false hne.out]; rfl, Below.refl _ _⟩
end Go.Proofs.YtlenmkemjaaaoaaDoor
