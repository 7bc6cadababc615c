/- The walk of refs.heads. -/
import Derived.Test.YtlenmkemjaaaoaaDoorRfM
import Derived.Deep.QuietTactic
import Derived.LoopTactic
import Derived.IntWalk
namespace Go.Proofs.YtlenmkemjaaaoaaDoor
open Go.RowKit

theorem rises_true : ∀ {l : List Str}, (∀ j, j + 1 < l.length → lessS (l.getD j []) (l.getD (j + 1) []) = true) → rises l = true
  | [], _ => rfl
  | [_], _ => rfl
  | a :: b :: r, h => by
    have h0 := h 0 (by simp)
    have ih : rises (b :: r) = true := rises_true fun j hj => by have := h (j + 1) (by simpa using hj); simpa using this
    simp only [rises, Bool.and_eq_true]
    exact ⟨by simpa using h0, ih⟩
theorem rises_false : ∀ {l : List Str} {k : Nat}, k + 1 < l.length → lessS (l.getD k []) (l.getD (k + 1) []) = false → rises l = false
  | [], _, h, _ => by simp at h
  | [_], _, h, _ => by simp at h
  | a :: b :: r, 0, _, h => by simp only [rises, Bool.and_eq_false_iff]; left; simpa using h
  | a :: b :: r, k + 1, hk, h => by
    simp only [rises, Bool.and_eq_false_iff]
    right
    exact rises_false (l := b :: r) (k := k) (by simpa using hk) (by simpa using h)
theorem ret_i {a b : Int} (h : a = b) : Ending.returned (.int .i64 a) = .returned (.int .i64 b) := by rw [h]
set_option maxRecDepth 100000 in
set_option maxHeartbeats 1000000 in
theorem heads_any (l : List Str) (v : Value) (ok : Nat → Prop) (w : World) (h : HdIs w ok v l) (hf : HFit l) :
    Calls Tryd.prog 40 #[v] w fun e w' => e = .returned (.int .i64 (headsE l)) ∧ Below w.heap.size w w' := by
  obtain ⟨A, c, rfl, hc, hr⟩ := h
  have hH : HdIs w ok (.slice A l.length c) l := ⟨A, c, rfl, hc, hr⟩
  have hlen : l.length ≤ 4398046511104 := hf.len
  have hok := Lib.hid hf.ok
  clear hr hc hf
  by_cases h8 : 8 < l.length
  · have he : Hid (headsE l = 4) := Lib.hid (by unfold headsE; rw [if_pos h8])
    go_enter Tryd.func40, Tryd.ntmps40
    go_wp2
    go_ret
    exact ⟨ret_i he.out.symm, Below.refl _ _⟩
  · have h8' : l.length ≤ 8 := by omega
    have he : Hid (headsE l = if rises l then 0 else 7) := Lib.hid (by unfold headsE; rw [if_neg h8])
    replace hH := Lib.hid hH
    clear h8
    go_enter Tryd.func40, Tryd.ntmps40
    go_wp2
    go_loopw [9] (fun i wr => ∃ k : Nat, k ≤ l.length ∧ i = .int .i64 k ∧ Hid (∀ j, j + 1 < k → lessS (l.getD j []) (l.getD (j + 1) []) = true) ∧ Below w.heap.size w wr) (fun i _ => l.length - (intOf i).toNat)
    case atStart => exact ⟨0, Nat.zero_le _, rfl, Lib.hid (fun j hj => by omega), Below.refl _ _⟩
    case round =>
      obtain ⟨k, hk, rfl, hr, hb⟩ := hrel
      by_cases hlt : k < l.length
      · by_cases hk0 : k = 0
        · subst hk0
          have g0 : decide (0 < ((0 : Nat) : Int)) = false := by simp
          go_wp2
          go_quiet (fail)
          go_wp2
          go_roundw
          case rel => exact ⟨1, by omega, by go_num, Lib.hid (fun j hj => by omega), below_drewN hb nq⟩
          case measure => simp [intOf]; omega
        · have hk1 : 0 < k := by omega
          obtain ⟨b, o, rfl, _, hbl, hc2⟩ := hH.out.dig hok.out k hlt
          obtain ⟨b', o', e', _, _, hc1⟩ := hH.out.dig hok.out (k - 1) (by omega)
          cases e'
          obtain ⟨x, hx⟩ : ∃ x, x = l[k - 1] := ⟨_, rfl⟩
          obtain ⟨y, hy⟩ : ∃ y, y = l[k] := ⟨_, rfl⟩
          have hxl : x.length = 32 := by rw [hx]; exact hok.out _ (List.getElem_mem _)
          have hyl : y.length = 32 := by rw [hy]; exact hok.out _ (List.getElem_mem _)
          rw [← hx] at hc1
          rw [← hy] at hc2
          have hxy : Hid (lessS (l.getD (k - 1) []) (l.getD (k - 1 + 1) []) = lessS x y) := Lib.hid (by
            rw [hx, hy, Nat.sub_add_cancel hk1]
            simp [hlt, show k - 1 < l.length by omega])
          have hc1' : ∀ s : Over wr, ∀ j v, (x.map B)[j]? = some v → s.1.cell? ⟨b, o + (k - 1) * 32 + j, none⟩ = some v := fun s j v hv => by
            rw [(hb.trans (s.2.mono hb.size)).cell (p := ⟨b, _, none⟩) hbl]; exact hc1 j v hv
          have hc2' : ∀ s : Over wr, ∀ j v, (y.map B)[j]? = some v → s.1.cell? ⟨b, o + k * 32 + j, none⟩ = some v := fun s j v hv => by
            rw [(hb.trans (s.2.mono hb.size)).cell (p := ⟨b, _, none⟩) hbl]; exact hc2 j v hv
          have hcall := Lib.hid (less_any x y hxl hyl)
          have hsx := Lib.hid (digSz hxl)
          have hsy := Lib.hid (digSz hyl)
          replace hc1' := Lib.hid hc1'
          replace hc2' := Lib.hid hc2'
          clear hx hy hc1 hc2 hxl hyl
          obtain ⟨t, ht⟩ : ∃ t, t = lessS x y := ⟨_, rfl⟩
          rw [← ht] at hxy hcall
          clear ht
          have g0 : decide (0 < (k : Int)) = true := by simpa using hk1
          have e1 : IntKind.i64.wrap ((k : Int) - 1) = (k : Int) - 1 := IntWalk.i64_in _ (by omega)
          have e2 : (0 : Int) ≤ (k : Int) - 1 := by omega
          have e3 : (k : Int) - 1 < (l.length : Int) := by omega
          have e4 : ((k : Int) - 1).toNat = k - 1 := by omega
          have i1 : (0 : Int) ≤ (k : Int) := by omega
          have i2 : (k : Int) < (l.length : Int) := by omega
          haveI := over_nonempty wr
          go_wp2
          refine quiet_over (by kernel_rfl) (by kernel_rfl) ?_
          repeat (first
            | (refine wpQuiet_load_at 57 (.tmp 18) rfl rfl b (o + (k - 1) * 32) rfl (x.map B) (fun w hw => ?_) _ Tryd.underlying57 rfl hsx.out ?_
               · obtain ⟨s, rfl⟩ := hw
                 exact hc1'.out s
               go_frame)
            | (refine wpQuiet_load_at 57 (.tmp 22) rfl rfl b (o + k * 32) rfl (y.map B) (fun w hw => ?_) _ Tryd.underlying57 rfl hsy.out ?_
               · obtain ⟨s, rfl⟩ := hw
                 exact hc2'.out s
               go_frame)
            | go_big_quiet_step ((go_at_call 69; exact calls_over _ (hcall.out _))))
          refine wpQuiet_nil ?_
          rintro _ ⟨s, rfl⟩
          have hb2 := hb.trans (s.2.mono hb.size)
          obtain ⟨w2, hw2⟩ := s
          dsimp only at hb2 ⊢
          clear this hw2 hcall hc1' hc2'
          cases t with
          | true =>
            go_wp2
            go_roundw
            case rel =>
              refine ⟨k + 1, by omega, by go_num, Lib.hid (fun j hj => ?_), hb2⟩
              by_cases hjk : j + 1 < k
              · exact hr.out j hjk
              · obtain rfl : j = k - 1 := by omega
                exact hxy.out
            case measure => simp [intOf]; omega
          | false =>
            have hf : Hid (rises l = false) := Lib.hid (rises_false (k := k - 1) (by omega) hxy.out)
            go_wp2
            go_ret
            exact ⟨ret_i (by rw [he.out, hf.out]; rfl), hb2⟩
      · obtain rfl : k = l.length := by omega
        have hf : Hid (rises l = true) := Lib.hid (rises_true hr.out)
        go_wp2
        go_ret
        exact ⟨ret_i (by rw [he.out, hf.out]; rfl), hb⟩
end Go.Proofs.YtlenmkemjaaaoaaDoor
