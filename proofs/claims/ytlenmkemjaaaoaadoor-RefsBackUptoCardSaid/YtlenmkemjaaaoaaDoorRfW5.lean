/- The walks of the laws RefsParses and RefsBack. -/
import Derived.Test.YtlenmkemjaaaoaaDoorRfRp
import Derived.Test.YtlenmkemjaaaoaaDoorRfW3
namespace Go.Proofs.YtlenmkemjaaaoaaDoor
open Go.RowKit
attribute [local go_sem] toL

theorem rp_yes {s : Str} (h : parseOk s = true) : rpE s = 0 ∧ rpT s = looseT s := by
  obtain ⟨h1, h2⟩ := rtab_yes h
  unfold rpE rpT
  rw [h1]
  dsimp only
  rw [if_pos h2, if_pos h2]
  exact ⟨rfl, rfl⟩
theorem rp_not {s : Str} (h : parseOk s = false) : rpE s = 7 ∧ rpT s = [] := by
  unfold rpE rpT
  cases hq : rtab s with
  | none => exact ⟨rfl, rfl⟩
  | some T =>
    have := rtab_no h hq
    dsimp only
    rw [if_neg this, if_neg this]
    exact ⟨rfl, rfl⟩
theorem parse_text {s : Str} (h : parseOk s = true) : mayE (looseT s) = 0 ∧ printS (looseT s) = s := by
  unfold parseOk at h
  simp only [Bool.and_eq_true, decide_eq_true_eq] at h
  exact ⟨h.1.2, h.2⟩
theorem fparse_yes {s : Str} (w : World) (hs : s.length ≤ 1073741824) (h : parseOk s = true) :
    Calls Tryd.prog 17 #[strV s] w fun e w' => Below w.heap.size w w' ∧ ∃ v, e = .returned (.tuple #[v, .int .i64 0]) ∧ OwnTab w' w.heap.size v (looseT s) :=
  (fparse_any s w hs).mono fun _ _ ⟨h1, h2⟩ => by
    rw [if_pos h] at h2
    exact ⟨h1, h2⟩
theorem fparse_no {s : Str} (w : World) (hs : s.length ≤ 1073741824) (h : parseOk s = false) :
    Calls Tryd.prog 17 #[strV s] w fun e w' => Below w.heap.size w w' ∧ e = .returned (.tuple #[.slice none 0 0, .int .i64 7]) :=
  (fparse_any s w hs).mono fun _ _ ⟨h1, h2⟩ => by
    rw [if_neg (by rw [h]; decide)] at h2
    exact ⟨h1, h2⟩
set_option maxRecDepth 100000 in
set_option maxHeartbeats 8000000 in
theorem parses_any (s : Str) (w : World) (hs : s.length ≤ 1073741824) :
    Calls Tryd.prog 4 #[strV s] w fun e w' => e = .returned (.bool true) ∧ Below w.heap.size w w' := by
  have h2 := Lib.hid (fun W => rp_any s W hs)
  have hal := Lib.hid alive_any
  unfold RParsedTo at h2
  have hsl := strLn s
  cases hp : parseOk s with
  | true =>
    obtain ⟨e1, e2⟩ := rp_yes hp
    have hfit := Lib.hid (looseT_fit s hs)
    obtain ⟨T, hT⟩ : ∃ T, T = looseT s := ⟨_, rfl⟩
    have h1 := Lib.hid (fparse_yes w hs hp)
    rw [← hT] at h1
    rw [e1, e2, ← hT] at h2
    rw [← hT] at hfit
    unfold strV at h1 h2 ⊢
    clear hp e1 e2 hT
    go_enter Tryd.func4, Tryd.ntmps4
    go_wp2_with fail
    refine h1.out.mono ?_
    rintro e w1 ⟨hb1, v1, rfl, ho1⟩
    obtain ⟨TA, tc, rfl, _⟩ := ho1.form
    replace ho1 := Lib.hid ho1
    replace hb1 := Lib.hid hb1
    clear h1
    go_wp2_with fail
    refine (h2.out w1).mono ?_
    rintro e w2 ⟨v2, rfl, ho2, hb2'⟩
    obtain ⟨UA, uc, rfl, _⟩ := ho2.form
    have hb2 := Lib.hid (hb1.out.trans (hb2'.mono hb1.out.size))
    have ho12 := Lib.hid (ho1.out.keepB hb2')
    replace ho2 := Lib.hid ho2
    clear hb2' h2
    go_wp2_with fail
    refine (rsame_self T _ _ _ _ w2 ho12.out.tab ho2.out.tab hfit.out).mono ?_
    rintro e w3 ⟨rfl, hb3'⟩
    have hb3 := Lib.hid (hb2.out.trans (hb3'.mono hb2.out.size))
    clear hb3'
    go_wp2_with fail
    refine (hal.out w3).mono ?_
    rintro e w4 ⟨rfl, hb4'⟩
    have hb4 := Lib.hid (hb3.out.trans (hb4'.mono hb3.out.size))
    clear hb4'
    go_wp2
    go_ret
    exact ⟨rfl, hb4.out⟩
  | false =>
    obtain ⟨e1, e2⟩ := rp_not hp
    have h1 := Lib.hid (fparse_no w hs hp)
    rw [e1, e2] at h2
    unfold strV at h1 h2 ⊢
    clear hp e1 e2
    go_enter Tryd.func4, Tryd.ntmps4
    go_wp2_with fail
    refine h1.out.mono ?_
    rintro e w1 ⟨hb1, rfl⟩
    replace hb1 := Lib.hid hb1
    clear h1
    go_wp2_with fail
    refine (h2.out w1).mono ?_
    rintro e w2 ⟨v2, rfl, ho2, hb2'⟩
    obtain ⟨UA, uc, rfl, _⟩ := ho2.form
    have hb2 := Lib.hid (hb1.out.trans (hb2'.mono hb1.out.size))
    replace ho2 := Lib.hid ho2
    clear hb2' h2
    go_wp2_with fail
    refine (rsame_self [] _ _ _ _ w2 (TabIs.nil (ok := fun _ => True)) ho2.out.tab tfit_nil).mono ?_
    rintro e w3 ⟨rfl, hb3'⟩
    have hb3 := Lib.hid (hb2.out.trans (hb3'.mono hb2.out.size))
    clear hb3'
    go_wp2_with fail
    refine (hal.out w3).mono ?_
    rintro e w4 ⟨rfl, hb4'⟩
    have hb4 := Lib.hid (hb3.out.trans (hb4'.mono hb3.out.size))
    clear hb4'
    go_wp2
    go_ret
    exact ⟨rfl, hb4.out⟩
set_option maxRecDepth 100000 in
set_option maxHeartbeats 8000000 in
theorem back_any (T : Tab) (v : Value) (s : Str) (ok : Nat → Prop) (w : World) (h : TabIs w ok v T) (hf : TFit T) (hs : s.length ≤ 1073741824) :
    Calls Tryd.prog 6 #[v, strV s] w fun e w' => e = .returned (.bool true) ∧ Below w.heap.size w w' := by
  obtain ⟨A, tc, rfl, htc⟩ := h.form
  have hT := Lib.hid (fun W (hb : Below w.heap.size w W) => h.stayB hb)
  have hp0 := Lib.hid (print_any T _ ok w h hf)
  have hal := Lib.hid alive_any
  have hsl := strLn s
  have hss : (s == s) = true := by simp
  by_cases hm : mayE T = 0
  · have hpt : printT T = printS T := by unfold printT; rw [if_pos hm]
    obtain ⟨k1, k2⟩ := parse_print hm hf.tok
    have hsm := print_small hm hf.tok
    rw [hm, hpt] at hp0
    obtain ⟨t, ht⟩ : ∃ t, t = printS T := ⟨_, rfl⟩
    rw [← ht] at hp0 k1 k2 hsm
    have h1 := Lib.hid (fun W => fparse_yes W (by omega) k1)
    rw [k2] at h1
    have htl := strLn t
    replace hf := Lib.hid hf
    clear ht k1 k2 hpt hm h htc
    cases hp : parseOk s with
    | true =>
      obtain ⟨q1, q2⟩ := parse_text hp
      have hfit := Lib.hid (looseT_fit s hs)
      obtain ⟨R, hR⟩ : ∃ R, R = looseT s := ⟨_, rfl⟩
      have h2 := Lib.hid (fun W => fparse_yes W hs hp)
      rw [← hR] at h2
      rw [← hR] at q1 q2 hfit
      have hp2 := Lib.hid (fun (v : Value) (ok : Nat → Prop) W h => print_any R v ok W h hfit.out)
      rw [q1, show printT R = s by unfold printT; rw [if_pos q1, q2]] at hp2
      unfold strV at hp0 h1 h2 hp2 ⊢
      clear hp q1 q2 hR
      go_enter Tryd.func6, Tryd.ntmps6
      go_wp2_with fail
      refine hp0.out.mono ?_
      rintro e w1 ⟨rfl, hb1⟩
      replace hb1 := Lib.hid hb1
      clear hp0
      go_wp2_with fail
      refine (h1.out w1).mono ?_
      rintro e w2 ⟨hb2', v2, rfl, ho2⟩
      obtain ⟨UA, uc, rfl, _⟩ := ho2.form
      have hb2 := Lib.hid (hb1.out.trans (hb2'.mono hb1.out.size))
      replace ho2 := Lib.hid ho2
      clear hb2' h1
      go_wp2_with fail
      refine (rsame_self T _ _ _ _ w2 (hT.out w2 hb2.out) ho2.out.tab hf.out).mono ?_
      rintro e w3 ⟨rfl, hb3'⟩
      have hb3 := Lib.hid (hb2.out.trans (hb3'.mono hb2.out.size))
      clear hb3'
      go_wp2_with fail
      refine (h2.out w3).mono ?_
      rintro e w4 ⟨hb4', v4, rfl, ho4⟩
      obtain ⟨VA, vc, rfl, _⟩ := ho4.form
      have hb4 := Lib.hid (hb3.out.trans (hb4'.mono hb3.out.size))
      replace ho4 := Lib.hid ho4
      clear hb4' h2
      go_wp2_with fail
      refine (hp2.out _ _ w4 ho4.out.tab).mono ?_
      rintro e w5 ⟨rfl, hb5'⟩
      have hb5 := Lib.hid (hb4.out.trans (hb5'.mono hb4.out.size))
      clear hb5'
      go_wp2_with fail
      refine (hal.out w5).mono ?_
      rintro e w6 ⟨rfl, hb6'⟩
      have hb6 := Lib.hid (hb5.out.trans (hb6'.mono hb5.out.size))
      clear hb6'
      go_wp2
      go_ret
      exact ⟨rfl, hb6.out⟩
    | false =>
      have h2 := Lib.hid (fun W => fparse_no W hs hp)
      unfold strV at hp0 h1 h2 ⊢
      clear hp
      go_enter Tryd.func6, Tryd.ntmps6
      go_wp2_with fail
      refine hp0.out.mono ?_
      rintro e w1 ⟨rfl, hb1⟩
      replace hb1 := Lib.hid hb1
      clear hp0
      go_wp2_with fail
      refine (h1.out w1).mono ?_
      rintro e w2 ⟨hb2', v2, rfl, ho2⟩
      obtain ⟨UA, uc, rfl, _⟩ := ho2.form
      have hb2 := Lib.hid (hb1.out.trans (hb2'.mono hb1.out.size))
      replace ho2 := Lib.hid ho2
      clear hb2' h1
      go_wp2_with fail
      refine (rsame_self T _ _ _ _ w2 (hT.out w2 hb2.out) ho2.out.tab hf.out).mono ?_
      rintro e w3 ⟨rfl, hb3'⟩
      have hb3 := Lib.hid (hb2.out.trans (hb3'.mono hb2.out.size))
      clear hb3'
      go_wp2_with fail
      refine (h2.out w3).mono ?_
      rintro e w4 ⟨hb4', rfl⟩
      have hb4 := Lib.hid (hb3.out.trans (hb4'.mono hb3.out.size))
      clear hb4' h2
      go_wp2_with fail
      refine (hal.out w4).mono ?_
      rintro e w6 ⟨rfl, hb6'⟩
      have hb6 := Lib.hid (hb4.out.trans (hb6'.mono hb4.out.size))
      clear hb6'
      go_wp2
      go_ret
      exact ⟨rfl, hb6.out⟩
  · have hpt : printT T = [] := by unfold printT; rw [if_neg hm]
    obtain ⟨E, hE⟩ : ∃ E, E = mayE T := ⟨_, rfl⟩
    rw [hpt, ← hE] at hp0
    have g1 : (E == 0) = false := by rw [beq_eq_false_iff_ne, hE]; exact hm
    clear hE hpt hm h htc hf
    cases hp : parseOk s with
    | true =>
      obtain ⟨q1, q2⟩ := parse_text hp
      have hfit := Lib.hid (looseT_fit s hs)
      obtain ⟨R, hR⟩ : ∃ R, R = looseT s := ⟨_, rfl⟩
      have h2 := Lib.hid (fun W => fparse_yes W hs hp)
      rw [← hR] at h2
      rw [← hR] at q1 q2 hfit
      have hp2 := Lib.hid (fun (v : Value) (ok : Nat → Prop) W h => print_any R v ok W h hfit.out)
      rw [q1, show printT R = s by unfold printT; rw [if_pos q1, q2]] at hp2
      unfold strV at hp0 h2 hp2 ⊢
      clear hp q1 q2 hR
      go_enter Tryd.func6, Tryd.ntmps6
      go_wp2_with fail
      refine hp0.out.mono ?_
      rintro e w1 ⟨rfl, hb1⟩
      replace hb1 := Lib.hid hb1
      clear hp0
      go_wp2_with fail
      refine (h2.out w1).mono ?_
      rintro e w4 ⟨hb4', v4, rfl, ho4⟩
      obtain ⟨VA, vc, rfl, _⟩ := ho4.form
      have hb4 := Lib.hid (hb1.out.trans (hb4'.mono hb1.out.size))
      replace ho4 := Lib.hid ho4
      clear hb4' h2
      go_wp2_with fail
      refine (hp2.out _ _ w4 ho4.out.tab).mono ?_
      rintro e w5 ⟨rfl, hb5'⟩
      have hb5 := Lib.hid (hb4.out.trans (hb5'.mono hb4.out.size))
      clear hb5'
      go_wp2_with fail
      refine (hal.out w5).mono ?_
      rintro e w6 ⟨rfl, hb6'⟩
      have hb6 := Lib.hid (hb5.out.trans (hb6'.mono hb5.out.size))
      clear hb6'
      go_wp2
      go_ret
      exact ⟨rfl, hb6.out⟩
    | false =>
      have h2 := Lib.hid (fun W => fparse_no W hs hp)
      unfold strV at hp0 h2 ⊢
      clear hp
      go_enter Tryd.func6, Tryd.ntmps6
      go_wp2_with fail
      refine hp0.out.mono ?_
      rintro e w1 ⟨rfl, hb1⟩
      replace hb1 := Lib.hid hb1
      clear hp0
      go_wp2_with fail
      refine (h2.out w1).mono ?_
      rintro e w4 ⟨hb4', rfl⟩
      have hb4 := Lib.hid (hb1.out.trans (hb4'.mono hb1.out.size))
      clear hb4' h2
      go_wp2_with fail
      refine (hal.out w4).mono ?_
      rintro e w6 ⟨rfl, hb6'⟩
      have hb6 := Lib.hid (hb4.out.trans (hb6'.mono hb4.out.size))
      clear hb6'
      go_wp2
      go_ret
      exact ⟨rfl, hb6.out⟩
end Go.Proofs.YtlenmkemjaaaoaaDoor
