/- The walk of the reference's Apply. -/
import Derived.Test.YtlenmkemjaaaoaaDoorRfGp
namespace Go.Proofs.YtlenmkemjaaaoaaDoor
open Go.RowKit
attribute [local go_sem] toL

/-- A block of the caller's, or one of a table that was made since. -/
def RK (w : World) (ok : Nat → Prop) (W : World) (b : Nat) : Prop := ok b ∨ (w.heap.size ≤ b ∧ ∃ cs, Blk W b 61 cs)
def RApplyTo (w : World) (ok : Nat → Prop) (T : Tab) (C : List Chg) (e : Ending) (w' : World) : Prop := ∃ v, e = .returned (.tuple #[v, .int .i64 (applyE T C)]) ∧ TabIs w' (RK w ok w') v (applyT T C) ∧ Below w.heap.size w w'
theorem rapply_bad {w w' : World} {ok : Nat → Prop} {T : Tab} {C : List Chg} {x : Int} (he : applyE T C = x) (hx : x ≠ 0) (hb : Below w.heap.size w w') {e : Ending} (h : e = .returned (.tuple #[.slice none 0 0, .int .i64 x])) : RApplyTo w ok T C e w' :=
  ⟨_, by rw [h, he], by unfold applyT; rw [if_neg (by rw [he]; exact hx)]; exact TabIs.nil, hb⟩
theorem any_false {C : List Chg} {n : Str} {k : Nat} (hk : k ≤ C.length) (h : ∀ j (hj : j < C.length), j < k → C[j].name ≠ n) : (C.take k).any (fun x => x.name == n) = false := by
  rw [List.any_eq_false]
  intro x hx e
  obtain ⟨j, hj, rfl⟩ := List.getElem_of_mem hx
  rw [List.length_take] at hj
  rw [List.getElem_take] at e
  exact h j (by omega) (by omega) (by simpa using e)
theorem any_true {C : List Chg} {n : Str} {k j : Nat} (hk : k ≤ C.length) (hj : j < k) (h : (C[j]'(by omega)).name = n) : (C.take k).any (fun x => x.name == n) = true := by
  rw [List.any_eq_true]
  refine ⟨C[j]'(by omega), ?_, by simpa using h⟩
  rw [List.mem_iff_getElem]
  exact ⟨j, by rw [List.length_take]; omega, by rw [List.getElem_take]⟩
theorem calls_same {f : FuncId} {args : Array Value} {W : World} {v : Value} (h : Calls Tryd.prog f args W fun e w' => e = .returned v ∧ W = w') : Calls Tryd.prog f args W fun e w' => e = .returned v ∧ Below W.heap.size W w' :=
  h.mono fun _ _ ⟨h1, h2⟩ => ⟨h1, h2 ▸ Below.refl _ _⟩
set_option maxRecDepth 100000 in
set_option maxHeartbeats 8000000 in
theorem rapply_any (T : Tab) (C : List Chg) (v u : Value) (ok : Nat → Prop) (w : World) (h : TabIs w ok v T) (hf : TFit T) (h' : ChsIs w ok u C) (hc : CFit C) :
    Calls Tryd.prog 22 #[v, u] w (RApplyTo w ok T C) := by
  obtain ⟨A, tc, rfl, htc⟩ := h.form
  obtain ⟨CA, cc, rfl, hcc⟩ := h'.form
  have hmay := Lib.hid (rmay_any T _ ok w h hf)
  have hlT := hf.len
  have hlC := hc.len
  have hAE : applyE T C = if mayE T = 0 then (if 32 < C.length then 4 else if wrongsE T [] C = 0 then (if 32 < (putsT T C).length then 4 else 0) else wrongsE T [] C) else mayE T := rfl
  by_cases hm : mayE T = 0
  · rw [if_pos hm] at hAE
    obtain ⟨ml, mb, ms⟩ := (mayE_zero T).1 hm
    rw [hm] at hmay
    clear hm
    by_cases h32 : 32 < C.length
    · rw [if_pos h32] at hAE
      replace hAE := Lib.hid hAE
      clear h h' hf hc
      go_enter Tryd.func22, Tryd.ntmps22
      go_wp2_with fail
      refine hmay.out.mono ?_
      rintro e w1 ⟨rfl, hb1⟩
      replace hb1 := Lib.hid hb1
      go_wp2
      go_ret2
      exact rapply_bad hAE.out (by decide) hb1.out rfl
    · rw [if_neg h32] at hAE
      have hC32 : C.length ≤ 32 := by omega
      have hT := Lib.hid (fun W (hb : Below w.heap.size w W) => h.stayB hb)
      have hCh := Lib.hid (fun W (hb : Below w.heap.size w W) => h'.stayB hb)
      replace hf := Lib.hid hf
      replace hc := Lib.hid hc
      replace ms := Lib.hid ms
      replace mb := Lib.hid mb
      replace hAE := Lib.hid hAE
      clear h h' h32
      go_enter Tryd.func22, Tryd.ntmps22
      go_wp2_with fail
      refine hmay.out.mono ?_
      rintro e w1 ⟨rfl, hb1⟩
      clear hmay
      go_wp2_with fail
      go_loopw [7] (fun i wr => ∃ k : Nat, k ≤ C.length ∧ i = .int .i64 k ∧ Hid (wrongsE T [] C = wrongsE T (C.take k) (C.drop k)) ∧ Below w.heap.size w wr) (fun i _ => C.length - (intOf i).toNat)
      case atStart => exact ⟨0, Nat.zero_le _, rfl, Lib.hid rfl, hb1⟩
      case round =>
        clear hb1
        obtain ⟨k, hk, rfl, hw, hb⟩ := hrel
        by_cases hlt : k < C.length
        · have hC1 := hCh.out wr hb
          obtain ⟨b, o, x, y, rfl, hbl, hblt, hX, hY, hcells⟩ := hC1.ch k hlt
          obtain ⟨c0, c1, c2⟩ := three_cells hcells
          have hat := wrongs_at T C k hlt
          rw [← hw.out] at hat
          have hc1 := hc.out.ok C[k] (List.getElem_mem hlt)
          obtain ⟨c, hcc2⟩ : ∃ c, c = C[k] := ⟨_, rfl⟩
          rw [← hcc2] at hX hY c0 hat hc1
          replace hcc2 := Lib.hid hcc2
          have hnl := hc1.name
          have hwe : wrongE T (C.take k) c = if nmOk c.name then (if (C.take k).any (fun x => x.name == c.name) then 6 else if headsE c.new = 0 then (if getT T c.name = c.old then 0 else 12) else headsE c.new) else 11 := rfl
          obtain ⟨XA, xc, rfl, _, _⟩ := id hX
          obtain ⟨YA, yc, rfl, _, _⟩ := id hY
          have hnm := Lib.hid (rname_any c.name wr hnl)
          unfold strV at c0
          have i1 : (0 : Int) ≤ (k : Int) := by omega
          have i2 : (k : Int) < (C.length : Int) := by omega
          replace hat := Lib.hid hat
          cases hno : nmOk c.name with
          | false =>
            rw [hno] at hnm hwe
            have hfin : Hid (applyE T C = 11) := Lib.hid (by rw [hAE.out, hat.out, hwe]; rfl)
            clear hno hat hwe hC1 hX hY hcells c1 c2
            go_wp2_with ((go_at_call 53; refine hnm.out.mono ?_; rintro e w' ⟨rfl, rfl⟩))
            go_ret2
            exact rapply_bad hfin.out (by decide) hb rfl
          | true =>
            rw [hno] at hnm
            replace hwe : Hid (wrongE T (C.take k) c = if (C.take k).any (fun x => x.name == c.name) then 6 else if headsE c.new = 0 then (if getT T c.name = c.old then 0 else 12) else headsE c.new) := Lib.hid (by rw [hwe, hno]; rfl)
            obtain ⟨wo, rfl⟩ : ∃ wo : World, wo = wr := ⟨_, rfl⟩
            clear hno hC1 hcells c1 c2
            go_wp2_with ((go_at_call 53; refine hnm.out.mono ?_; rintro e w' ⟨rfl, rfl⟩))
            clear hnm c0 hX hY hblt
            go_loopw [8] (fun i wr => ∃ j : Nat, j ≤ k ∧ i = .int .i64 j ∧ Hid (∀ q (h : q < C.length), q < j → C[q].name ≠ c.name) ∧ Below w.heap.size w wr) (fun i _ => k - (intOf i).toNat)
            case atStart => exact ⟨0, Nat.zero_le _, rfl, Lib.hid (fun q _ h => absurd h (by omega)), hb⟩
            case round =>
              clear hb
              obtain ⟨j, hj, rfl, hnone, hb⟩ := hrel
              have hC1 := hCh.out wr hb
              obtain ⟨b', o', x', y', e', _, hblt, hX, hY, hcells⟩ := hC1.ch k hlt
              cases e'
              obtain ⟨c0, c1, c2⟩ := three_cells hcells
              rw [← hcc2.out] at hX hY c0
              have e1 := c1
              have e2 := c2
              obtain ⟨XA', xc', hxe, _, _⟩ := id hX
              obtain ⟨YA', yc', hye, _, _⟩ := id hY
              rw [hxe] at e1 hX
              rw [hye] at e2 hY
              clear hxe hye
              unfold strV at c0
              by_cases hjk : j < k
              · obtain ⟨b2, o2, x2, y2, e', _, _, _, _, hcells2⟩ := hC1.ch j (by omega)
                cases e'
                obtain ⟨d0, _, _⟩ := three_cells hcells2
                obtain ⟨m, hm⟩ : ∃ m, m = C[j].name := ⟨_, rfl⟩
                rw [← hm] at d0
                unfold strV at d0
                have i3 : (0 : Int) ≤ (j : Int) := by omega
                have i4 : (j : Int) < (C.length : Int) := by omega
                have i5 : (j : Int) < (k : Int) := by omega
                by_cases heq : m = c.name
                · have g1 : (m == c.name) = true := by simpa using heq
                  have hany := any_true (C := C) (n := c.name) (k := k) (by omega) hjk (by rw [← hm]; exact heq)
                  have hfin : Hid (applyE T C = 6) := Lib.hid (by rw [hAE.out, hat.out, hwe.out, hany]; rfl)
                  clear hat hwe hC1 hX hY hcells hcells2 c1 c2 e1 e2 hany hm
                  go_wp2
                  go_quiet (fail)
                  go_wp2
                  go_ret2
                  exact rapply_bad hfin.out (by decide) (below_drewN hb nq) rfl
                · have g1 : (m == c.name) = false := by simpa using heq
                  have hnone2 : Hid (∀ q (h : q < C.length), q < j + 1 → C[q].name ≠ c.name) := Lib.hid (fun q hq hqj => by
                    rcases Nat.lt_or_ge q j with h | h
                    · exact hnone.out q hq h
                    · obtain rfl : q = j := by omega
                      rw [← hm]; exact heq)
                  clear hat hwe hC1 hX hY hcells hcells2 c1 c2 e1 e2 hm heq
                  go_wp2
                  go_quiet (fail)
                  go_wp2
                  go_roundw
                  case rel => exact ⟨j + 1, by omega, by go_num, hnone2, below_drewN hb nq⟩
                  case measure => simp [intOf]; omega
              · obtain rfl : j = k := by omega
                have hany := any_false (C := C) (n := c.name) (k := j) (by omega) hnone.out
                rw [hany] at hwe
                replace hwe : Hid (wrongE T (C.take j) c = if headsE c.new = 0 then (if getT T c.name = c.old then 0 else 12) else headsE c.new) := Lib.hid (by rw [hwe.out]; rfl)
                have hhd := Lib.hid (rheads_any c.new _ _ wr hY hc1.new)
                obtain ⟨z, hz⟩ : ∃ z, z = headsE c.new := ⟨_, rfl⟩
                rw [← hz] at hhd hwe
                have g0 : decide ((j : Int) < (j : Int)) = false := by simp
                clear hcells c1 c2 hany hz hnone hj hjk
                by_cases hz0 : z = 0
                · subst hz0
                  replace hwe : Hid (wrongE T (C.take j) c = if getT T c.name = c.old then 0 else 12) := Lib.hid (by rw [hwe.out]; rfl)
                  have hX1 := Lib.hid (fun W hW => hX.stayB (w' := W) hW)
                  have hT1 := Lib.hid (hT.out wr hb)
                  have hC2 := Lib.hid (fun W (hW : Below wr.heap.size wr W) => hCh.out W (hb.trans (hW.mono hb.size)))
                  clear hC1 hX hY
                  go_wp2_with ((go_at_call 54; refine hhd.out.mono ?_; rintro e w3 ⟨rfl, hb3⟩))
                  obtain ⟨gu, hgu, hget⟩ := rget_any T _ c.name _ w3 (hT1.out.stayB hb3) hlT
                  have hX3 := hX1.out w3 hb3
                  have hCs := Lib.hid (fun (s : Over w3) => hC2.out s.1 (hb3.trans (s.2.mono hb3.size)))
                  have hgc := Lib.hid (fun s : Over w3 => calls_same (hget s.1 s.2))
                  have hsm := Lib.hid (fun s : Over w3 => dsame_any (getT T c.name) c.old gu _ _ _ s.1 (hgu.stayB s.2) (hX3.stayB s.2) (getT_fit hf.out c.name) hc1.old)
                  have hcell0 : Hid (∀ s : Over w3, s.1.cell? ⟨b, o + j * 3, none⟩ = some (.string ⟨c.name.toArray⟩)) := Lib.hid (fun s => by
                    rw [s.2.cell (p := ⟨b, o + j * 3, none⟩) (Nat.lt_of_lt_of_le hblt hb3.size), hb3.cell (p := ⟨b, o + j * 3, none⟩) hblt]; exact c0)
                  have hcell1 : Hid (∀ s : Over w3, s.1.cell? ⟨b, o + j * 3 + 1, none⟩ = some (.slice XA' c.old.length xc')) := Lib.hid (fun s => by
                    rw [s.2.cell (p := ⟨b, o + j * 3 + 1, none⟩) (Nat.lt_of_lt_of_le hblt hb3.size), hb3.cell (p := ⟨b, o + j * 3 + 1, none⟩) hblt]; exact e1)
                  have hb3' := Lib.hid (hb.trans (hb3.mono hb.size))
                  unfold strV at hgc
                  clear hget hgu hX3 hX1 hhd hT1 hC2 hCs c0 e1 e2 hb3 hb
                  obtain ⟨r, hr⟩ : ∃ r, r = decide (getT T c.name = c.old) := ⟨_, rfl⟩
                  rw [← hr] at hsm
                  replace hr := Lib.hid hr
                  haveI := over_nonempty w3
                  refine quiet_over (by kernel_rfl) (by kernel_rfl) ?_
                  repeat (first
                    | (refine wpQuiet_cell 9 (.tmp 61) rfl rfl b (o + j * 3) rfl (.string ⟨c.name.toArray⟩) (fun w hw => ?_) aggStr ?_
                       · obtain ⟨s, rfl⟩ := hw
                         exact hcell0.out s
                       go_frame)
                    | (refine wpQuiet_cell 44 (.tmp 67) rfl rfl b (o + j * 3 + 1) rfl (.slice XA' c.old.length xc') (fun w hw => ?_) aggHd ?_
                       · obtain ⟨s, rfl⟩ := hw
                         exact hcell1.out s
                       go_frame)
                    | go_big_quiet_step (first
                       | (go_at_call 55; exact calls_over _ (hgc.out _))
                       | (go_at_call 24; exact calls_over _ (hsm.out _))))
                  refine wpQuiet_nil ?_
                  rintro _ ⟨s, rfl⟩
                  have hb4 := hb3'.out.trans (s.2.mono hb3'.out.size)
                  obtain ⟨w4, hw4⟩ := s
                  dsimp only at hb4 ⊢
                  clear this hw4 hcell0 hcell1 hgc hsm hb3'
                  cases hrv : r with
                  | true =>
                    have hgo : getT T c.name = c.old := of_decide_eq_true (by rw [← hr.out, hrv])
                    have hw0 : wrongE T (C.take j) c = 0 := by rw [hwe.out, if_pos hgo]
                    have hnext : Hid (wrongsE T [] C = wrongsE T (C.take (j + 1)) (C.drop (j + 1))) := Lib.hid (hat.out.trans (if_pos hw0))
                    clear hat hwe hr hrv hgo hw0
                    go_wp2
                    go_roundw
                    case rel => exact ⟨j + 1, by omega, by go_num, hnext, hb4⟩
                    case measure => simp [intOf]; omega
                  | false =>
                    have hgo : ¬ getT T c.name = c.old := of_decide_eq_false (by rw [← hr.out, hrv])
                    have hw0 : wrongE T (C.take j) c = 12 := by rw [hwe.out, if_neg hgo]
                    have hfin : Hid (applyE T C = 12) := Lib.hid (by
                      have h1 : wrongsE T [] C = 12 := by rw [hat.out, hw0]; rfl
                      rw [hAE.out, h1]; rfl)
                    clear hat hwe hr hrv hgo hw0
                    go_wp2
                    go_ret2
                    exact rapply_bad hfin.out (by decide) hb4 rfl
                · have g2 : (z != 0) = true := by simpa using hz0
                  have hw0 : wrongE T (C.take j) c = z := by rw [hwe.out, if_neg hz0]
                  have hfin : Hid (applyE T C = z) := Lib.hid (by
                    have h1 : wrongsE T [] C = z := by rw [hat.out, hw0, if_neg hz0]
                    rw [hAE.out, h1, if_neg hz0])
                  replace hz0 := Lib.hid hz0
                  clear hat hwe hC1 hX hY hw0 c0 e1
                  go_wp2_with ((go_at_call 54; refine hhd.out.mono ?_; rintro e w3 ⟨rfl, hb3⟩))
                  go_ret2
                  exact rapply_bad hfin.out hz0.out (hb.trans (hb3.mono hb.size)) rfl
        · obtain rfl : k = C.length := by omega
          have hw0 : wrongsE T [] C = 0 := by rw [hw.out, List.drop_length]; rfl
          have hAE2 : Hid (applyE T C = if 32 < (putsT T C).length then 4 else 0) := Lib.hid (by rw [hAE.out, if_pos hw0])
          have hway : Hid (Way T 0) := Lib.hid ⟨ms.out, ml, hf.out.ok⟩
          have hT0 := Lib.hid ((hT.out wr hb).stay (ok' := RK w ok wr) (fun _ _ _ => rfl) (fun b h _ => .inl h))
          clear hw hw0 hAE
          go_wp2_with fail
          go_loopw [0, 10] (fun l i wr => ∃ k : Nat, k ≤ C.length ∧ i = .int .i64 k ∧ TabIs wr (RK w ok wr) l ((C.take k).foldl stepT T) ∧ Hid (Way ((C.take k).foldl stepT T) k) ∧ Below w.heap.size w wr) (fun _ i _ => C.length - (intOf i).toNat)
          case atStart => exact ⟨0, Nat.zero_le _, rfl, hT0.out, hway, hb⟩
          case round =>
            clear hT0 hb hway
            obtain ⟨k, hk, rfl, hO, hway, hb⟩ := hrel
            by_cases hlt : k < C.length
            · have hC1 := hCh.out wr hb
              obtain ⟨b, o, x, y, rfl, hbl, hblt, hX, hY, hcells⟩ := hC1.ch k hlt
              obtain ⟨c0, c1, c2⟩ := three_cells hcells
              have hc1 := hc.out.ok C[k] (List.getElem_mem hlt)
              have hfk : Hid ((C.take (k + 1)).foldl stepT T = stepT ((C.take k).foldl stepT T) C[k]) := Lib.hid (by rw [take_at hlt, List.foldl_append]; rfl)
              obtain ⟨c, hcc2⟩ : ∃ c, c = C[k] := ⟨_, rfl⟩
              rw [← hcc2] at hX hY c0 hc1 hfk
              obtain ⟨T0, hT0⟩ : ∃ T0, T0 = (C.take k).foldl stepT T := ⟨_, rfl⟩
              rw [← hT0] at hO hway hfk
              have hstep : stepT T0 c = putT T0 c.name c.new := step_put hway.out.sorted c
              rw [hstep] at hfk
              have hwn : Hid (Way (putT T0 c.name c.new) (k + 1)) := Lib.hid (by rw [← hstep]; exact hway.out.step hc1)
              have hl0 : T0.length ≤ 64 := by have := hway.out.len; omega
              have hY1 := hY.stay (ok' := RK w ok wr) (fun _ _ _ => rfl) (fun b h _ => .inl h)
              have hbw2 : Hid (∀ n, Below wr.heap.size wr (wr.drewN n)) := Lib.hid (fun n => below_drewN (Below.refl _ _) n)
              obtain ⟨OA, oc, rfl, _⟩ := hO.form
              obtain ⟨YA, yc, rfl, _, _⟩ := id hY
              have hput := Lib.hid (fun n => rput_any T0 _ c.name _ c.new _ (wr.drewN n) (hO.stayB (below_drewN (Below.refl _ _) n)) (hY1.stayB (below_drewN (Below.refl _ _) n)) (by omega) hc1.new.len)
              have i1 : (0 : Int) ≤ (k : Int) := by omega
              have i2 : (k : Int) < (C.length : Int) := by omega
              unfold strV at c0 hput
              clear hC1 hX hY hY1 hO hcells c1 hcc2 hT0 hstep
              go_wp2
              refine quiet_tail 11 (by kernel_rfl) (by kernel_rfl) ?_
              simp only [List.take_succ_cons, List.take_zero, List.drop_succ_cons, List.drop_zero]
              repeat (first | go_big_quiet_step (fail))
              refine wpQuiet_nil ?_
              rintro _ ⟨nq, rfl⟩
              have hb2 := below_drewN hb nq
              have hp2 := Lib.hid (hput.out nq)
              have hbw3 := Lib.hid (hbw2.out nq)
              clear hput c0 c2
              generalize wr.drewN nq = w2 at hb2 hp2 hbw3 ⊢
              go_wp2_with fail
              refine hp2.out.mono ?_
              rintro e w3 ⟨v3, rfl, hO3, hb3⟩
              obtain ⟨OA3, oc3, rfl, _⟩ := hO3.form
              have hb4 := hb2.trans (hb3.mono hb2.size)
              have hsz2 := hb2.size
              replace hO3 := Lib.hid hO3
              have hbw4 := Lib.hid (hbw3.out.trans (hb3.mono hbw3.out.size))
              go_wp2
              go_roundw
              case rel =>
                refine ⟨k + 1, by omega, by go_num, ?_, by rw [hfk.out]; exact hwn, hb4⟩
                rw [hfk.out]
                exact hO3.out.stay (fun _ _ _ => rfl) (fun b h _ => by
                  rcases h with (h | ⟨h, cs, hB⟩) | ⟨h, hB⟩
                  · exact .inl h
                  · exact .inr ⟨h, cs, hB.below hbw4.out hB.lt⟩
                  · exact .inr ⟨by omega, hB⟩)
              case measure => simp [intOf]; omega
            · obtain rfl : k = C.length := by omega
              rw [List.take_length] at hO hway
              have hfold := foldl_step C T ms.out
              rw [hfold] at hO hway
              obtain ⟨FA, fc, rfl, _⟩ := hO.form
              have hpl : (putsT T C).length ≤ 64 := by have := hway.out.len; omega
              by_cases hbig : 32 < (putsT T C).length
              · have hfin : Hid (applyE T C = 4) := Lib.hid (by rw [hAE2.out, if_pos hbig])
                replace hb := Lib.hid hb
                clear hO
                go_wp2
                go_ret2
                exact rapply_bad hfin.out (by decide) hb.out rfl
              · have hfin : Hid (applyE T C = 0) := Lib.hid (by rw [hAE2.out, if_neg hbig])
                replace hb := Lib.hid hb
                replace hO := Lib.hid hO
                go_wp2
                go_ret2
                exact ⟨_, two_ret rfl (by rw [hfin.out]; rfl), by unfold applyT; rw [if_pos hfin.out]; exact hO.out, hb.out⟩
  · rw [if_neg hm] at hAE
    obtain ⟨x, hx⟩ : ∃ x, x = mayE T := ⟨_, rfl⟩
    rw [← hx] at hmay hm hAE
    have g1 : (x != 0) = true := by simpa using hm
    replace hAE := Lib.hid hAE
    replace hm := Lib.hid hm
    clear hx h h' hf hc
    go_enter Tryd.func22, Tryd.ntmps22
    go_wp2_with fail
    refine hmay.out.mono ?_
    rintro e w1 ⟨rfl, hb1⟩
    replace hb1 := Lib.hid hb1
    go_wp2
    go_ret2
    exact rapply_bad hAE.out hm.out hb1.out rfl
end Go.Proofs.YtlenmkemjaaaoaaDoor
