/- The walk of the law RefsFull. -/
import Derived.Test.YtlenmkemjaaaoaaDoorRfW6
namespace Go.Proofs.YtlenmkemjaaaoaaDoor
open Go.RowKit

/-- All blocks but those of disks and of their calls stay. -/
def Keeps2 (W W' : World) : Prop := ∀ k t cs, Blk W k t cs → t ≠ 75 → t ≠ 120 → Blk W' k t cs
theorem Keeps2.keeps {W W' : World} (h : Keeps2 W W') : Keeps W W' := fun k t cs hB _ h2 h3 => h k t cs hB h2 h3
theorem Keeps2.touch {W W' : World} {g bn bs : Nat} {pv : Value} {S : DS} (hD : DiskAt W g bn bs pv S) (ht : Touch (foot g bn bs pv) W W') : Keeps2 W W' := fun _ _ _ hB h1 h2 => hB.touch ht (hD.tag hB h1 h2)
theorem OwnTab.keeps2 {W W' : World} {base : Nat} {v : Value} {T : Tab} (h : OwnTab W base v T) (hK : Keeps2 W W') : OwnTab W' base v T := h.keeps hK.keeps
theorem open_live2 {w0 : World} {base g : Nat} {S : DS} {W : World} {X : Option Str} {T : Tab} (h : Ses w0 base g S W) (hS : Live S X) (hX : TextOf X T) :
    Calls Tryd.prog 26 #[.pointer (some ⟨g, 0, none⟩)] W fun e W' => ∃ rb v, e = .returned (.tuple #[.pointer (some ⟨rb, 0, none⟩), .int .i64 0]) ∧ Ref w0 base rb g v S T W' ∧ Keeps2 W W' := by
  obtain ⟨L, ⟨bn, bs, pv, hD, rfl⟩, hL⟩ := h.disk
  have hE : openE S = 0 ∧ openT S = T := by
    rcases hX with ⟨rfl, rfl⟩ | ⟨rfl, hm, hh⟩
    · exact hS.openE_none
    · obtain ⟨h1, h2⟩ := parse_print hm hh
      obtain ⟨h3, h4⟩ := hS.openE_some h1
      exact ⟨h3, h4.trans h2⟩
  have hlen := hX.len
  refine (open_any g bn bs pv S W hD (hS.inv.asked (by omega)) ?_).mono ?_
  · rw [hS.openS, hS.readT]; omega
  · rintro e W' ⟨ht, hR⟩
    rw [hE.1, if_pos rfl, hE.2] at hR
    rw [hS.openS] at ht
    obtain ⟨rb, tv, he, hlo, hB, hO⟩ := hR
    exact ⟨rb, tv, he, ⟨h.turned hL ht, Nat.le_trans h.size hlo, hB, hO.lower h.size⟩, Keeps2.touch hD ht.1⟩
theorem mayF_small : ∀ (p : Option Str) (l : Tab), mayF p l ≤ 12
  | _, [] => by unfold mayF; omega
  | p, b :: r => by
    have h1 := mayF_small (some b.name) r
    have h2 := headsE_cases b.heads
    unfold mayF
    split
    · split
      · split
        · omega
        · split
          · exact h1
          · omega
      · omega
    · omega
theorem wrongsE_small (T : Tab) : ∀ (C a : List Chg), wrongsE T a C ≤ 12
  | [], a => by unfold wrongsE; omega
  | c :: C, a => by
    have h1 := wrongsE_small T C (a ++ [c])
    have h2 := headsE_cases c.new
    have h3 : wrongE T a c ≤ 12 := by
      unfold wrongE
      split
      · split
        · omega
        · split
          · split <;> omega
          · omega
      · omega
    unfold wrongsE
    split
    · exact h1
    · exact h3
theorem applyE_small (T : Tab) (C : List Chg) : applyE T C ≤ 12 := by
  have h1 := wrongsE_small T C []
  have h2 : mayE T ≤ 12 := by
    unfold mayE
    split
    · omega
    · exact mayF_small none T
  unfold applyE
  split
  · split
    · omega
    · split
      · split <;> omega
      · exact h1
  · exact h2
/-- What Do does where there may be little room. -/
def RoomTo (w0 : World) (base rb g : Nat) (v : Value) (S : DS) (X : Option Str) (T : Tab) (C : List Chg) (W : World) (e : Ending) (W' : World) : Prop :=
  Keeps W W' ∧ ((applyE T C ≠ 0 ∧ e = .returned (.int .i64 (applyE T C)) ∧ Ref w0 base rb g v S T W') ∨
    (applyE T C = 0 ∧ S.room < ((printT (applyT T C)).length : Int) + ((X.getD []).length : Int) ∧ e = .returned (.int .i64 14) ∧ Ref w0 base rb g v S T W') ∨
    (applyE T C = 0 ∧ e = .returned (.int .i64 0) ∧ ∃ v' S' X', Ref w0 base rb g v' S' (applyT T C) W' ∧ Live S' X' ∧ TextOf X' (applyT T C) ∧ S'.room = S.room))
theorem do_room {w0 : World} {base rb g : Nat} {v u : Value} {S : DS} {T : Tab} {W : World} {X : Option Str} {C : List Chg} {ok' : Nat → Prop} (h : Ref w0 base rb g v S T W) (hS : Live S X) (hX : TextOf X T)
    (h' : ChsIs W ok' u C) (hc : CFit C) : Calls Tryd.prog 27 #[.pointer (some ⟨rb, 0, none⟩), u] W (RoomTo w0 base rb g v S X T C W) := by
  obtain ⟨L, ⟨bn, bs, pv, hD, rfl⟩, hL⟩ := h.disk
  obtain ⟨hm, hh⟩ := hX.tok
  have hf := tfit_of hm hh
  have hd : cOk C := hc.cok
  by_cases hE : applyE T C ≠ 0 ∨ C = []
  · refine (do_early rb g v u T C _ ok' W h.ref h.own.tab hf h' hc hE).mono ?_
    rintro e W' ⟨he, hb⟩
    refine ⟨Keeps.below hb, ?_⟩
    have hR := h.below hb
    by_cases h0 : applyE T C = 0
    · have hC : C = [] := hE.resolve_left (fun hn => hn h0)
      have hT : applyT T C = T := by unfold applyT; rw [if_pos h0, hC]; rfl
      rw [hT]
      exact .inr (.inr ⟨h0, by rw [he, h0], v, S, X, hR, hS, hX, rfl⟩)
    · exact .inl ⟨h0, he, hR⟩
  · have hE0 : applyE T C = 0 := Decidable.byContradiction (fun hn => hE (.inl hn))
    have hC : C ≠ [] := fun hn => hE (.inr hn)
    obtain ⟨hm2, hh2⟩ := apply_may hE0 hh hd
    have hl1 := print_small hm2 hh2
    have hP : printT (applyT T C) = printS (applyT T C) := by unfold printT; rw [if_pos hm2]
    have i1 := hS.inv.turn (.write nextN (printT (applyT T C)))
    have i2 := i1.turn .sync
    have i3 := i2.turn (.rename nextN fileN)
    refine (do_late rb g bn bs pv v u S T C _ ok' W h.ref h.own.tab hf h' hc hE0 hC (tfit_of hm2 hh2) (by rw [hP]; omega) hD (hS.inv.asked (by omega)) (i1.asked (by omega)) (i2.asked (by omega)) (i3.asked (by omega))).mono ?_
    rintro e W' ⟨he, ht, ⟨L', hD', hL'⟩, nv, hB, hO⟩
    have hb : ∀ i ∈ rb :: foot g bn bs pv, base ≤ i := fun i hi => by
      rcases List.mem_cons.1 hi with rfl | hi
      · exact h.low
      · exact hL i hi
    have hK : Keeps W W' := fun k t cs hBk a b c => hBk.touch ht (fun hm => by
      rcases List.mem_cons.1 hm with rfl | hm
      · exact a (hBk.unique h.ref)
      · exact hD.tag hBk b c hm)
    have hbase : ∀ i ∈ L', base ≤ i := fun i hi => by
      rcases hL' i hi with h1 | h1
      · exact hL i h1
      · exact Nat.le_trans h.size h1
    have hbel := h.bel.trans (ht.below h.size hb)
    by_cases hfull : S.room < ((printT (applyT T C)).length : Int) + ((X.getD []).length : Int)
    · obtain ⟨q1, q2⟩ := hS.chain_full hfull
      rw [q1] at he hB hO
      rw [q2] at hD'
      rw [if_neg (by decide)] at hO
      subst hO
      refine ⟨hK, .inr (.inl ⟨hE0, hfull, he, ⟨⟨hbel, Nat.le_trans h.size ht.size, L', hD', hbase⟩, h.low, hB, ?_⟩⟩)⟩
      have := h.own.keeps hK
      exact this
    · have hch : ChainOk S (printT (applyT T C)) := hS.chain hfull
      rw [hch.e] at he hB hO
      rw [hch.s] at hD'
      rw [if_pos rfl] at hO
      exact ⟨hK, .inr (.inr ⟨hE0, he, nv, Live.after S (printT (applyT T C)), some (printT (applyT T C)), ⟨⟨hbel, Nat.le_trans h.size ht.size, L', hD', hbase⟩, h.low, hB, hO.lower h.size⟩, hch.live, .inr ⟨by rw [hP], hm2, hh2⟩, rfl⟩)⟩
theorem size_live {w0 : World} {base rb g : Nat} {v : Value} {S : DS} {T : Tab} {W : World} {X : Option Str} (h : Ref w0 base rb g v S T W) (hS : Live S X) (hl : (X.getD []).length ≤ 65536) :
    Calls Tryd.prog 33 #[.pointer (some ⟨g, 0, none⟩)] W fun e w' => e = .returned (.int .i64 ((X.getD []).length : Int)) ∧ Below W.heap.size W w' := by
  obtain ⟨L, ⟨bn, bs, pv, hD, rfl⟩, hL⟩ := h.disk
  have := dsize_any g bn bs pv S W hD hS.off (by rw [hS.holds.sum]; omega)
  rwa [hS.holds.sum] at this
set_option maxRecDepth 100000 in
set_option maxHeartbeats 16000000 in
theorem full_any (r : Int) (Cs : List (List Chg)) (v : Value) (w : World) (hr : (Lit.int .i64 r).wf = true) (h : RwIs w (· < w.heap.size) v Cs) (hf : ∀ C ∈ Cs, CFit C) (hl : Cs.length ≤ 5864062014805) :
    Calls Tryd.prog 12 #[.int .i64 r, v] w fun e w' => e = .returned (.bool true) ∧ Below w.heap.size w w' := by
  have hrb : -9223372036854775808 ≤ r ∧ r ≤ 9223372036854775807 := by simpa [Lit.wf, IntKind.min, IntKind.max, IntKind.signed, IntKind.bits] using hr
  obtain ⟨hr1, hr2⟩ := hrb
  have hq1 : -399 ≤ Int.tmod r 400 := by have := Int.tmod_lt_of_pos (-r) (show (0 : Int) < 400 by omega); rw [Int.neg_tmod] at this; omega
  have hq2 : Int.tmod r 400 ≤ 399 := by have := Int.tmod_lt_of_pos r (show (0 : Int) < 400 by omega); omega
  obtain ⟨q, hq⟩ : ∃ q, q = Int.tmod r 400 := ⟨_, rfl⟩
  rw [← hq] at hq1 hq2
  have hqt : Int.tmod r 400 = q := hq.symm
  clear hq hr
  have hm1 : 0 ≤ (q + 400) % 400 := by omega
  have hm2 : (q + 400) % 400 < 400 := by omega
  have hnew := Lib.hid (new_any ((q + 400) % 400) w hm1 (by omega))
  obtain ⟨m, hm⟩ : ∃ m, m = (q + 400) % 400 := ⟨_, rfl⟩
  have hmE : (q + 400) % 400 = m := hm.symm
  rw [hmE] at hnew hm1 hm2
  have hmE2 : q % 400 = m := by omega
  clear hm
  obtain ⟨A, c, rfl, hc⟩ := h.form
  replace h := Lib.hid h
  replace hf := Lib.hid hf
  have hal := Lib.hid alive_any
  go_enter Tryd.func12, Tryd.ntmps12
  go_wp2_with fail
  rw [hmE]
  refine hnew.out.mono ?_
  rintro e w1 ⟨g, L, rfl, hd, hL, hb⟩
  have hses : Hid (Ses w w.heap.size g (DS.new m) w1) := Lib.hid ⟨hb, hb.size, L, hd, hL⟩
  have hlv : Hid (Live (DS.new m) none) := Lib.hid (Live.new hm1 (by omega))
  clear hnew hd hL hb hqt hmE hmE2
  go_wp2_with fail
  refine (open_live hses.out hlv.out (.inl ⟨rfl, rfl⟩)).mono ?_
  rintro e w3 ⟨rb, rv, rfl, hR3, hK3⟩
  replace hR3 := Lib.hid hR3
  clear hses hK3
  go_wp2_with fail
  refine (hal.out w3).mono ?_
  rintro e w4 ⟨rfl, hb4⟩
  have hR4 := Lib.hid (hR3.out.below hb4)
  clear hR3 hb4
  go_wp2_with fail
  go_loopw [49] (fun i wr => ∃ (k : Nat) (T : Tab) (S : DS) (X : Option Str) (v : Value), k ≤ Cs.length ∧ i = .int .i64 k ∧ Ref w w.heap.size rb g v S T wr ∧ Live S X ∧ TextOf X T ∧ S.room = m) (fun i _ => Cs.length - (intOf i).toNat)
  case atStart => exact ⟨0, [], DS.new m, none, rv, Nat.zero_le _, rfl, hR4.out, hlv.out, .inl ⟨rfl, rfl⟩, rfl⟩
  case round =>
    clear hR4 hlv
    obtain ⟨k, T, S, X, v, hk, rfl, hR, hS, hX, hroom⟩ := hrel
    obtain ⟨tm, th⟩ := hX.tok
    have hTf := Lib.hid (tfit_of tm th)
    have hall := Lib.hid (all_any rb _ _ v T _ wr hR.ref hR.own.tab hTf.out)
    by_cases hlt : k < Cs.length
    · obtain ⟨b, o, u, rfl, hb0, hbl, hC, c0⟩ := (h.out.low hR.bel).at k hlt
      have hcf := Lib.hid (hf.out Cs[k] (List.getElem_mem hlt))
      obtain ⟨C, hCk⟩ : ∃ C, C = Cs[k] := ⟨_, rfl⟩
      rw [← hCk] at hC hcf
      obtain ⟨UA, uc, rfl, _⟩ := hC.form
      have i1 : (0 : Int) ≤ (k : Int) := by omega
      have i2 : (k : Int) < (Cs.length : Int) := by omega
      replace hR := Lib.hid hR
      replace hS := Lib.hid hS
      replace hX := Lib.hid hX
      replace hroom := Lib.hid hroom
      replace hC := Lib.hid hC
      have hRf := Lib.hid (applyT_fit hTf.out hcf.out)
      have hEs := applyE_small T C
      clear hCk tm th
      go_wp2_with fail
      refine hall.out.mono ?_
      rintro e w5 ⟨av, rfl, ha5, hb5⟩
      obtain ⟨LA, lc, rfl, _⟩ := ha5.form
      have hR5 := Lib.hid (hR.out.below hb5)
      have hC5 := Lib.hid (hC.out.stayB hb5)
      replace ha5 := Lib.hid ha5
      have hap := Lib.hid (apply_any T C _ _ _ _ w5 ha5.out.tab hTf.out hC5.out hcf.out)
      unfold ApplyTo at hap
      clear hall hb5 hR hC c0
      go_wp2_with fail
      refine hap.out.mono ?_
      rintro e w6 ⟨mv, rfl, hm6, hb6⟩
      obtain ⟨MA, mc, rfl, _⟩ := hm6.form
      have hR6 := Lib.hid (hR5.out.below hb6)
      have hC6 := Lib.hid (hC5.out.stayB hb6)
      have ha6 := Lib.hid (ha5.out.keepB hb6)
      replace hm6 := Lib.hid hm6
      have how := Lib.hid (lown_any C _ _ w6 hC6.out hcf.out)
      clear hap hb6 hR5 hC5 ha5
      go_wp2_with fail
      refine how.out.mono ?_
      rintro e w7 ⟨xv, rfl, hx7, hb7⟩
      obtain ⟨VA, vc, rfl, _⟩ := hx7.form
      have hR7 := Lib.hid (hR6.out.below hb7)
      have ha7 := Lib.hid (ha6.out.keepB hb7)
      have hm7 := Lib.hid (hm6.out.keepB hb7)
      have hdo := Lib.hid (do_room hR7.out hS.out hX.out hx7.chs hcf.out)
      clear hx7 hb7 how hR6 hC6 ha6 hm6
      go_wp2_with fail
      refine hdo.out.mono ?_
      rintro e w8 ⟨hK8, hcase⟩
      have ha8 := Lib.hid (ha7.out.keeps hK8)
      have hm8 := Lib.hid (hm7.out.keeps hK8)
      obtain ⟨E, hE⟩ : ∃ E, E = applyE T C := ⟨_, rfl⟩
      obtain ⟨R, hRe⟩ : ∃ R, R = applyT T C := ⟨_, rfl⟩
      rw [← hE] at hcase hEs ⊢
      rw [← hRe] at hcase hm8 hRf ⊢
      clear hdo hK8 hR7 ha7 hm7 hE hRe
      rcases hcase with ⟨hne, rfl, hR8⟩ | ⟨he0, hfull, rfl, hR8⟩ | ⟨he0, rfl, hR8⟩
      · have g1 : (E == 14) = false := by rw [beq_eq_false_iff_ne]; omega
        have g2 : (E != E) = false := by simp
        have g3 : (E == 0) = false := by rw [beq_eq_false_iff_ne]; exact hne
        replace hR8 := Lib.hid hR8
        replace hne := Lib.hid hne
        go_wp2
        go_roundw
        case rel => exact ⟨k + 1, T, S, X, v, by omega, by go_num, hR8.out, hS.out, hX.out, hroom.out⟩
        case measure => simp [intOf]; omega
      · subst he0
        have hpr := Lib.hid (print_any R _ _ w8 hm8.out.tab hRf.out)
        have hXl := hX.out.len
        have hpl : (printT R).length ≤ 1099511627776 := by
          by_cases hmR : mayE R = 0
          · have := print_small hmR hRf.out.tok
            unfold printT; rw [if_pos hmR]; omega
          · unfold printT; rw [if_neg hmR]; simp
        obtain ⟨t, ht⟩ : ∃ t, t = printT R := ⟨_, rfl⟩
        obtain ⟨z, hz⟩ : ∃ z, z = mayE R := ⟨_, rfl⟩
        rw [← ht] at hpr hpl hfull
        rw [← hz] at hpr
        have htl := strLn t
        obtain ⟨y, hy⟩ : ∃ y, y = (X.getD []).length := ⟨_, rfl⟩
        rw [← hy] at hfull hXl
        have e1 : IntKind.i64.wrap ((t.length : Int) + (y : Int)) = (t.length : Int) + (y : Int) := IntWalk.i64_in _ (by omega)
        have d1 : decide ((t.length : Int) + (y : Int) ≤ m) = false := decide_eq_false (by rw [hroom.out] at hfull; omega)
        replace hR8 := Lib.hid hR8
        replace hy := Lib.hid hy
        unfold strV at hpr
        clear hfull ht hz
        go_wp2_with fail
        refine hpr.out.mono ?_
        rintro e w9 ⟨rfl, hb9⟩
        have hR9 := Lib.hid (hR8.out.below hb9)
        have ha9 := Lib.hid (ha8.out.keepB hb9)
        have hsz := Lib.hid (size_live hR9.out hS.out hX.out.len)
        rw [← hy.out] at hsz
        clear hpr hb9 hR8 ha8 hm8
        go_wp2_with fail
        refine hsz.out.mono ?_
        rintro e w10 ⟨rfl, hb10⟩
        have hR10 := Lib.hid (hR9.out.below hb10)
        have ha10 := Lib.hid (ha9.out.keepB hb10)
        have hall := Lib.hid (all_any rb _ _ v T _ w10 hR10.out.ref hR10.out.own.tab hTf.out)
        clear hsz hb10 hR9 ha9
        go_wp2_with fail
        refine hall.out.mono ?_
        rintro e w11 ⟨bv, rfl, hb11, hbb⟩
        obtain ⟨QA, qc, rfl, _⟩ := hb11.form
        have hR11 := Lib.hid (hR10.out.below hbb)
        have ha11 := Lib.hid (ha10.out.keepB hbb)
        replace hb11 := Lib.hid hb11
        clear hall hbb hR10 ha10
        go_wp2_with fail
        refine (rsame_self T _ _ _ _ w11 hb11.out.tab ha11.out.tab hTf.out).mono ?_
        rintro e w12 ⟨rfl, hb12⟩
        have hR12 := Lib.hid (hR11.out.below hb12)
        clear hb12 hR11 ha11 hb11
        go_wp2
        go_roundw
        case rel => exact ⟨k + 1, T, S, X, v, by omega, by go_num, hR12.out, hS.out, hX.out, hroom.out⟩
        case measure => simp [intOf]; omega
      · subst he0
        obtain ⟨v', S', X', hR8, hS8, hX8, hro⟩ := hR8
        have hroom8 := Lib.hid (hro.trans hroom.out)
        replace hR8 := Lib.hid hR8
        replace hS8 := Lib.hid hS8
        replace hX8 := Lib.hid hX8
        have hall := Lib.hid (all_any rb _ _ v' R _ w8 hR8.out.ref hR8.out.own.tab hRf.out)
        clear hro ha8 hS hX hroom
        go_wp2_with fail
        refine hall.out.mono ?_
        rintro e w11 ⟨bv, rfl, hb11, hbb⟩
        obtain ⟨QA, qc, rfl, _⟩ := hb11.form
        have hR11 := Lib.hid (hR8.out.below hbb)
        have hm11 := Lib.hid (hm8.out.keepB hbb)
        replace hb11 := Lib.hid hb11
        clear hall hbb hR8 hm8
        go_wp2_with fail
        refine (rsame_self R _ _ _ _ w11 hb11.out.tab hm11.out.tab hRf.out).mono ?_
        rintro e w12 ⟨rfl, hb12⟩
        have hR12 := Lib.hid (hR11.out.below hb12)
        clear hb12 hR11 hm11 hb11
        go_wp2
        go_roundw
        case rel => exact ⟨k + 1, R, S', X', v', by omega, by go_num, hR12.out, hS8.out, hX8.out, hroom8.out⟩
        case measure => simp [intOf]; omega
    · obtain rfl : k = Cs.length := by omega
      have hcr := Lib.hid (crash_low (l := []) (A := none) (c := 0) hR hS Rd.nil ⟨by simp, by simp⟩)
      replace hS := Lib.hid hS
      replace hX := Lib.hid hX
      clear hall tm th hR
      go_wp2_with fail
      refine hcr.out.mono ?_
      rintro e w5 ⟨rfl, hR5, hK5⟩
      replace hR5 := Lib.hid hR5
      have hop := Lib.hid (open_live2 hR5.out.toSes hS.out hX.out)
      clear hcr hK5
      go_wp2_with fail
      refine hop.out.mono ?_
      rintro e w6 ⟨rb6, v6, rfl, hR6, hK6⟩
      have hrf6 := Lib.hid (hK6 _ _ _ hR5.out.ref (by decide) (by decide))
      have how6 := Lib.hid (hR5.out.own.keeps2 hK6)
      have hall := Lib.hid (all_any rb6 _ _ v6 T _ w6 hR6.ref hR6.own.tab hTf.out)
      have hb06 := Lib.hid hR6.bel
      clear hop hK6 hR5 hR6
      go_wp2_with fail
      refine hall.out.mono ?_
      rintro e w7 ⟨a7, rfl, ha7, hb7⟩
      obtain ⟨QA, qc, rfl, _⟩ := ha7.form
      have hb07 := Lib.hid (hb06.out.trans (hb7.mono hb06.out.size))
      have hall2 := Lib.hid (all_any rb _ _ v T _ w7 (hrf6.out.below hb7 hrf6.out.lt) (how6.out.keepB hb7).tab hTf.out)
      replace ha7 := Lib.hid ha7
      clear hall hb7 hrf6 how6
      go_wp2_with fail
      refine hall2.out.mono ?_
      rintro e w8 ⟨a8, rfl, ha8, hb8⟩
      obtain ⟨PA, pc, rfl, _⟩ := ha8.form
      have hb08 := Lib.hid (hb07.out.trans (hb8.mono hb07.out.size))
      have ha78 := Lib.hid (ha7.out.keepB hb8)
      replace ha8 := Lib.hid ha8
      clear hall2 hb8 ha7
      go_wp2_with fail
      refine (rsame_self T _ _ _ _ w8 ha78.out.tab ha8.out.tab hTf.out).mono ?_
      rintro e w9 ⟨rfl, hb9⟩
      have hb09 := Lib.hid (hb08.out.trans (hb9.mono hb08.out.size))
      clear hb9
      go_wp2
      go_ret
      exact ⟨rfl, hb09.out⟩
end Go.Proofs.YtlenmkemjaaaoaaDoor
