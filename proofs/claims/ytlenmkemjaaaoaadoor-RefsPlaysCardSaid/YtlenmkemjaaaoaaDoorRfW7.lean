/- The walk of the law RefsPlays. -/
import Derived.Test.YtlenmkemjaaaoaaDoorRfPx
import Derived.Deep.DeepCutAuto
namespace Go.Proofs.YtlenmkemjaaaoaaDoor
open Go.RowKit

/-- Between two rows of changes: names that are the document's table. -/
def Pl (w : World) (g : Nat) (rb : Nat) (lv : Value) (W : World) : Prop := ∃ (T : Tab) (S : DS) (X : Option Str) (v : Value), Ref w w.heap.size rb g v S T W ∧ Live S X ∧ TextOf X T ∧ S.room = 1048576 ∧ LTab w.heap.size W lv T
def PlT (w : World) (g : Nat) (rb : Nat) (lv : Value) (T : Tab) (W : World) : Prop := ∃ (S : DS) (X : Option Str) (v : Value), Ref w w.heap.size rb g v S T W ∧ Live S X ∧ TextOf X T ∧ S.room = 1048576 ∧ LTab w.heap.size W lv T
theorem LTab.keep2 {base : Nat} {w0 W W' : World} {v : Value} {T : Tab} (h : LTab base W v T) (h0 : Below base w0 W) (h1 : Below base w0 W') (hK : Keeps W W') : LTab base W' v T :=
  TabIs.stay h (fun b hb' _ => by
    rcases hb' with h2 | ⟨cs, h2⟩
    · rw [h1.block b h2, h0.block b h2]
    · have h3 := hK b _ cs h2 (by decide) (by decide) (by decide)
      unfold Blk at h2 h3
      rw [h2, h3]) (fun b hb' _ => by
    rcases hb' with h2 | ⟨cs, h2⟩
    · exact .inl h2
    · exact .inr ⟨cs, hK b _ cs h2 (by decide) (by decide) (by decide)⟩)
theorem dsame_self (x : List Str) (v u : Value) (ok ok' : Nat → Prop) (w : World) (h : HdIs w ok v x) (h' : HdIs w ok' u x) (hx : HFit x) :
    Calls Tryd.prog 24 #[v, u] w fun e w' => e = .returned (.bool true) ∧ Below w.heap.size w w' :=
  (dsame_any x x v u ok ok' w h h' hx hx).mono fun e w' ⟨h1, h2⟩ => ⟨by rw [h1, decide_eq_true rfl], h2⟩
/-- Behind Do: the changes that were handed in lie in [lo, hi), nothing of the names' or of the document's table does. -/
def PlM (w : World) (g rb lo hi : Nat) (lv : Value) (W : World) : Prop := ∃ (T : Tab) (S : DS) (X : Option Str) (v : Value), Ref w w.heap.size rb g v S T W ∧ Live S X ∧ TextOf X T ∧ S.room = 1048576 ∧ OffX W w.heap.size lo hi v T ∧ LTab w.heap.size W lv T
set_option maxRecDepth 100000 in
set_option maxHeartbeats 32000000 in
theorem plays_any (Cs : List (List Chg)) (v bv : Value) (lb : List Bool) (w : World) (h : RwIs w (· < w.heap.size) v Cs) (hf : ∀ C ∈ Cs, CFit C) (hl : Cs.length ≤ 5864062014805)
    (hbv : BsIs w (· < w.heap.size) bv lb) (hlb : lb.length ≤ 140737488355328) :
    Calls Tryd.prog 8 #[v, bv] w fun e w' => e = .returned (.bool true) ∧ Below w.heap.size w w' := by
  obtain ⟨A, c, rfl, hc⟩ := h.form
  obtain ⟨BA, bc, rfl, hbc, hBr⟩ := hbv
  have hfr := Lib.hid (fresh_any w)
  replace h := Lib.hid h
  replace hf := Lib.hid hf
  replace hBr := Lib.hid hBr
  have hal := Lib.hid alive_any
  go_enter Tryd.func8, Tryd.ntmps8
  go_wp2_with fail
  refine hfr.out.mono ?_
  rintro e w2 ⟨g, rfl, hses⟩
  replace hses := Lib.hid hses
  clear hfr
  go_wp2_with fail
  refine (open1 hses.out).mono ?_
  rintro e w3 ⟨rb0, rv, rfl, hR3⟩
  replace hR3 := Lib.hid hR3
  clear hses
  go_wp2_with fail
  refine (hal.out w3).mono ?_
  rintro e w4 ⟨rfl, hb4⟩
  have hR4 := Lib.hid (hR3.out.below hb4)
  clear hR3 hb4
  go_wp2_with fail
  go_loopw [45, 6, 8] (fun i rp lv wr => ∃ (k rb : Nat), k ≤ Cs.length ∧ i = .int .i64 k ∧ rp = .pointer (some ⟨rb, 0, none⟩) ∧ Pl w g rb lv wr) (fun i _ _ _ => Cs.length - (intOf i).toNat)
  case atStart => exact ⟨0, rb0, Nat.zero_le _, rfl, rfl, [], DS.new 1048576, none, rv, hR4.out, Live.new (by decide) (by decide), .inl ⟨rfl, rfl⟩, rfl, TabIs.nil⟩
  case round =>
    clear hR4
    obtain ⟨k, rb, hk, rfl, rfl, T, S, X, v, hR, hS, hX, hroom, hL⟩ := hrel
    by_cases hlt : k < Cs.length
    · obtain ⟨tm, th⟩ := hX.tok
      have hTf := Lib.hid (tfit_of tm th)
      obtain ⟨lA, lc, rfl, _⟩ := (show TabIs _ _ _ _ from hL).form
      obtain ⟨b, o, u, rfl, hb0, hbl, hC, c0⟩ := (h.out.low hR.bel).at k hlt
      have hcf := Lib.hid (hf.out Cs[k] (List.getElem_mem hlt))
      obtain ⟨C, hCk⟩ : ∃ C, C = Cs[k] := ⟨_, rfl⟩
      rw [← hCk] at hC hcf
      obtain ⟨UA, uc, rfl, _⟩ := hC.form
      have how := Lib.hid (lown_any C _ _ wr hC hcf.out)
      have i1 : (0 : Int) ≤ (k : Int) := by omega
      have i2 : (k : Int) < (Cs.length : Int) := by omega
      obtain ⟨lo, hlo⟩ : ∃ lo, lo = wr.heap.size := ⟨_, rfl⟩
      have hblo : w.heap.size ≤ lo := by rw [hlo]; exact hR.size
      replace hR := Lib.hid hR
      replace hS := Lib.hid hS
      replace hX := Lib.hid hX
      replace hroom := Lib.hid hroom
      replace hC := Lib.hid hC
      replace hL := Lib.hid hL
      replace hlo := Lib.hid hlo
      clear hCk tm th
      go_wp2_with fail
      refine how.out.mono ?_
      rintro e w5 ⟨xv, rfl, hx5, hb5⟩
      obtain ⟨VA, vc, rfl, _⟩ := hx5.form
      rw [← hlo.out] at hx5
      have hb05 := Lib.hid hb5
      have hR5 := Lib.hid (hR.out.below hb5)
      have hL5 := Lib.hid (hL.out.below hb5)
      have hC5 := Lib.hid (hC.out.stayB hb5)
      have hlo5 : lo ≤ w5.heap.size := by rw [hlo.out]; exact hb5.size
      replace hx5 := Lib.hid hx5
      have hrap := Lib.hid (rapply_any T C (.slice lA T.length lc) (.slice UA C.length uc) (RK0 w.heap.size w5) w5 hL5.out hTf.out (hC5.out.stay (fun _ _ _ => rfl) (fun b hb _ => .inl hb)) hcf.out)
      unfold RApplyTo at hrap
      clear how hb5 hL hC c0
      go_wp2_with fail
      refine hrap.out.mono ?_
      rintro e w6 ⟨mv, rfl, hm6, hb6⟩
      obtain ⟨MA, mc, rfl, _⟩ := hm6.form
      have hb06 := Lib.hid (hb05.out.trans (hb6.mono hb05.out.size))
      have hR6 := Lib.hid (hR5.out.below hb6)
      have hL6 := Lib.hid (hL5.out.below hb6)
      have hx6 := Lib.hid (hx5.out.keepB hb6)
      have hM6 : Hid (LTab w.heap.size w6 (.slice MA (applyT T C).length mc) (applyT T C)) := Lib.hid (hm6.stay (fun _ _ _ => rfl) (fun b hb _ => by
        rcases hb with (h1 | ⟨cs, h1⟩) | ⟨_, h1⟩
        · exact .inl h1
        · exact .inr ⟨cs, h1.below hb6 h1.lt⟩
        · exact .inr h1))
      have hlo6 : lo ≤ w6.heap.size := Nat.le_trans hlo5 hb6.size
      have hhi6 : w5.heap.size ≤ w6.heap.size := hb6.size
      have hb56 := Lib.hid hb6
      have hdo := Lib.hid (do_x hR6.out hS.out hX.out (by rw [hroom.out]; decide) hx6.out.chs hcf.out)
      unfold DidX at hdo
      clear hrap hb6 hR5 hL5 hm6 hb05
      go_wp2_with fail
      refine hdo.out.mono ?_
      rintro e w7 ⟨rfl, hK7, hb7, hif⟩
      have hK57 : Hid (Keeps w5 w7) := Lib.hid ((Keeps.below hb56.out).trans hK7)
      have hM7 := Lib.hid (hM6.out.keeps hb7 hK7)
      have hL7 := Lib.hid (hL6.out.keeps hb7 hK7)
      have hcase : Hid ((applyE T C = 0 → ∃ v' S' X', Ref w w.heap.size rb g v' S' (applyT T C) w7 ∧ Live S' X' ∧ TextOf X' (applyT T C) ∧ S'.room = 1048576 ∧ OffX w7 w.heap.size lo w5.heap.size v' (applyT T C)) ∧ (applyE T C ≠ 0 → Ref w w.heap.size rb g v S T w7 ∧ OffX w7 w.heap.size lo w5.heap.size v T)) := Lib.hid (by
        have hold : Below w6.heap.size w6 w7 → OffX w7 w.heap.size lo w5.heap.size v T := fun hb => by
          rw [hlo.out]
          exact OffX.of_old hR.out.own (hb06.out.trans (hb.mono hb06.out.size))
        constructor
        · intro hE
          rw [if_pos hE] at hif
          obtain ⟨v', S', X', q1, q2, q3, q4, q5⟩ := hif
          refine ⟨v', S', X', q1, q2, q3, q4.trans hroom.out, ?_⟩
          rcases q5 with q5 | ⟨rfl, q6, q7⟩
          · exact OffX.of_new (q5.lower hhi6) (Nat.le_trans hblo hlo5)
          · have := hold q7
            rw [q6]; exact this
        · intro hE
          rw [if_neg hE] at hif
          exact ⟨hif.1, hold hif.2⟩)
      obtain ⟨E, hE⟩ : ∃ E, E = applyE T C := ⟨_, rfl⟩
      rw [← hE] at hcase ⊢
      have g2 : (E != E) = false := by simp
      clear hdo hif hK7 hR6 hL6 hM6 hb06 hx6 hR hb56 hE
      go_upto_if 64 with fail
      go_cut [8] (fun lv wx => wx = w7 ∧ PlM w g rb lo w5.heap.size lv w7)
      case first =>
        by_cases hE0 : E = 0
        · subst hE0
          obtain ⟨v', S', X', q1, q2, q3, q4, q5⟩ := hcase.out.1 rfl
          have hfin : Hid (PlM w g rb lo w5.heap.size (.slice MA (applyT T C).length mc) w7) := Lib.hid ⟨_, S', X', v', q1, q2, q3, q4, q5, hM7.out⟩
          clear hcase q1 q2 q3 q4 q5
          go_wp2_with fail
          go_meet
          exact ⟨rfl, hfin.out⟩
        · obtain ⟨q1, q5⟩ := hcase.out.2 hE0
          have hfin : Hid (PlM w g rb lo w5.heap.size (.slice lA T.length lc) w7) := Lib.hid ⟨_, S, X, v, q1, hS.out, hX.out, hroom.out, q5, hL7.out⟩
          have g3 : (E == 0) = false := by rw [beq_eq_false_iff_ne]; exact hE0
          clear hcase q1 q5 hE0
          go_wp2_with fail
          go_meet
          exact ⟨rfl, hfin.out⟩
      case rest =>
        obtain ⟨rfl, hP⟩ := hcut
        clear hM7 hL7 hcase g2 hS hX hroom hC5
        obtain ⟨T1, S1, X1, v1, hR7, hS1, hX1, hroom1, hO7, hL7⟩ := hP
        obtain ⟨lA1, lc1, rfl, _⟩ := (show TabIs _ _ _ _ from hL7).form
        replace hR7 := Lib.hid hR7
        replace hS1 := Lib.hid hS1
        replace hX1 := Lib.hid hX1
        replace hroom1 := Lib.hid hroom1
        replace hO7 := Lib.hid hO7
        replace hL7 := Lib.hid hL7
        have hCl := hcf.out.len
        go_wp2_with fail
        go_loopw [68] (fun i wr => ∃ j : Nat, j ≤ C.length ∧ i = .int .i64 j ∧ XI wc lo w5.heap.size wr) (fun i _ => C.length - (intOf i).toNat)
        case atStart => exact ⟨0, Nat.zero_le _, rfl, XI.refl⟩
        case round =>
          obtain ⟨j, hj, rfl, hI⟩ := hrel
          by_cases hjt : j < C.length
          · obtain ⟨gx, cap, cur, ex, hBx, hrows⟩ := hx5.out.rows hK57.out (by omega)
            obtain ⟨NA, nc, hcu, hheads⟩ := hrows j hjt
            have hhf := (hcf.out.ok C[j] (List.getElem_mem hjt)).new
            obtain ⟨z, hz⟩ : ∃ z : Nat, z = 0 := ⟨_, rfl⟩
            injection ex with ex1 ex2 ex3
            rw [← hz] at ex1
            subst ex1
            obtain ⟨ns, hns⟩ : ∃ ns, ns = C[j].new := ⟨_, rfl⟩
            rw [← hns] at hcu hheads hhf
            have hnl := hhf.len
            have hcell : Hid (∀ wr, XI wc lo w5.heap.size wr → wr.cell? ⟨gx, z + j * 3 + 2, none⟩ = some (.slice NA ns.length nc)) := Lib.hid (fun wr hI => by
              rw [hz, Nat.zero_add, (hI.sp.blk hBx (by decide)).cell]; exact hcu)
            have c1 := hcell.out wr hI
            have i3 : (0 : Int) ≤ (j : Int) := by omega
            have i4 : (j : Int) < (C.length : Int) := by omega
            have hho := Lib.hid hhf.ok
            replace hheads := Lib.hid hheads
            replace hz := Lib.hid hz
            clear hns hcu hrows hhf hBx ex2 ex3
            go_wp2_with fail
            clear c1
            go_loopw [77] (fun i wr => ∃ q : Nat, q ≤ ns.length ∧ i = .int .i64 q ∧ XI wc lo w5.heap.size wr) (fun i _ => ns.length - (intOf i).toNat)
            case atStart => exact ⟨0, Nat.zero_le _, rfl, hI⟩
            case round =>
              clear hI
              obtain ⟨q, hq, rfl, hI⟩ := hrel
              by_cases hqt : q < ns.length
              · obtain ⟨gd, od, cs, rfl, hgl, hgh, hBd, hfit⟩ := hheads.out q hqt hho.out
                obtain ⟨cs', hBr', hcl'⟩ := hI.dig gd cs hBd
                have c1 := hcell.out wr hI
                have i5 : (0 : Int) ≤ (q : Int) := by omega
                have i6 : (q : Int) < (ns.length : Int) := by omega
                have hl88 : (d88.map B).length = 32 := rfl
                have hnext := Lib.hid (hI.setDig hgl hgh hBd (splice cs' (od + q * 32) (d88.map B)) hBr' (by rw [length_splice _ _ _ (by omega), hcl']))
                have hfit' : Hid (od + q * 32 + (d88.map B).length ≤ cs'.length) := Lib.hid (by omega)
                replace hBr' := Lib.hid hBr'
                replace hfit := Lib.hid hfit
                replace hcl' := Lib.hid hcl'
                replace hgl := Lib.hid hgl
                replace hgh := Lib.hid hgh
                clear hI hBd hl88
                go_wp2_with (first
                  | (refine wpList_run (.build 57 #[(0, .const (.int .u8 88))]) rfl rfl (.agg (d88.map B).toArray) (by kernel_rfl) ?_; go_frame)
                  | (refine wpList_store_part rfl 57 (.tmp 87) (.tmp 86) rfl gd (od + q * 32) (d88.map B) rfl rfl 57 cs' hBr'.out hfit'.out (by kernel_rfl) all88 ?_; go_frame))
                go_roundw
                case rel => exact ⟨q + 1, by omega, by go_num, hnext.out⟩
                case measure => simp [intOf]; omega
              · obtain rfl : q = ns.length := by omega
                go_wp2_with fail
                go_roundw
                case rel => exact ⟨j + 1, by omega, by go_num, hI⟩
                case measure => simp [intOf]; omega
          · obtain rfl : j = C.length := by omega
            have hR8 := Lib.hid (hR7.out.spoilt hI.sp hblo hO7.out)
            have hL8 := Lib.hid (hL7.out.spoilt hI.sp hblo)
            have hcb : Hid (∀ hkb : k < lb.length, ∃ b o, BA = some ⟨b, o, none⟩ ∧ b < wr.heap.size ∧ wr.cell? ⟨b, o + k, none⟩ = some (.bool lb[k])) := Lib.hid (fun hkb => by
              obtain ⟨b, o, e, hb, hlt, hcell⟩ := (hBr.out.stay (fun b hb _ => hR8.out.bel.block b hb) (fun _ h _ => h)).at (by rw [List.length_map]; omega)
              exact ⟨b, o, e, hlt, hcell k _ (by rw [List.getElem?_map, List.getElem?_eq_getElem hkb]; rfl)⟩)
            clear hI hR7 hL7 hO7 hx5 hK57 hcf
            obtain ⟨w8, rfl⟩ : ∃ w8 : World, w8 = wr := ⟨_, rfl⟩
            go_upto_region 24 with fail
            go_cut [99] (fun s wx => wx = w8 ∧ ∃ bo : Bool, s = .bool bo)
            case first =>
              by_cases hkb : k < lb.length
              · obtain ⟨b, o, rfl, hbl2, c0⟩ := hcb.out hkb
                obtain ⟨bo, hbo⟩ : ∃ bo, bo = lb[k] := ⟨_, rfl⟩
                rw [← hbo] at c0
                have i7 : (k : Int) < (lb.length : Int) := by omega
                replace hbo := Lib.hid hbo
                go_wp2_with fail
                go_meet
                exact ⟨rfl, bo, rfl⟩
              · have d1 : decide ((k : Int) < (lb.length : Int)) = false := decide_eq_false (by omega)
                go_wp2_with fail
                go_meet
                exact ⟨rfl, false, rfl⟩
            case rest =>
              obtain ⟨rfl, bo, rfl⟩ := hcut
              go_upto_if 99 with fail
              go_cut [6] (fun rp wx => ∃ rb2, rp = .pointer (some ⟨rb2, 0, none⟩) ∧ PlT w g rb2 (.slice lA1 T1.length lc1) T1 wx)
              case first =>
                cases bo
                · have hfin : Hid (PlT w g rb (.slice lA1 T1.length lc1) T1 wc) := Lib.hid ⟨S1, X1, v1, hR8.out, hS1.out, hX1.out, hroom1.out, hL8.out⟩
                  go_wp2_with fail
                  go_meet
                  exact ⟨rb, rfl, hfin.out⟩
                · have hcr := Lib.hid (crash_low (l := []) (A := none) (c := 0) hR8.out hS1.out Rd.nil ⟨by simp, by simp⟩)
                  go_wp2_with fail
                  refine hcr.out.mono ?_
                  rintro e w9 ⟨rfl, hR9, hK9⟩
                  have hL9 := Lib.hid (hL8.out.keep2 hR8.out.bel hR9.bel hK9)
                  replace hR9 := Lib.hid hR9
                  have hop := Lib.hid (open_live hR9.out.toSes hS1.out hX1.out)
                  clear hcr hK9
                  go_wp2_with fail
                  refine hop.out.mono ?_
                  rintro e w10 ⟨rb2, v2, rfl, hR10, hK10⟩
                  have hfin : Hid (PlT w g rb2 (.slice lA1 T1.length lc1) T1 w10) := Lib.hid ⟨S1, X1, v2, hR10, hS1.out, hX1.out, hroom1.out, hL9.out.keep2 hR9.out.bel hR10.bel hK10⟩
                  clear hop hR10 hK10 hL9 hR9
                  go_wp2_with fail
                  go_meet
                  exact ⟨rb2, rfl, hfin.out⟩
              case rest =>
                obtain ⟨rb2, rfl, S2, X2, v2, hR, hS, hX, hroom, hL⟩ := hcut
                obtain ⟨tm, th⟩ := hX.tok
                have hTf1 := Lib.hid (tfit_of tm th)
                have hall := Lib.hid (all_any rb2 _ _ v2 T1 _ wc hR.ref hR.own.tab hTf1.out)
                replace hR := Lib.hid hR
                replace hS := Lib.hid hS
                replace hX := Lib.hid hX
                replace hroom := Lib.hid hroom
                replace hL := Lib.hid hL
                replace tm := Lib.hid tm
                clear hR8 hL8 hS1 hX1 hroom1 th hcb
                obtain ⟨w11, rfl⟩ : ∃ w11 : World, w11 = wc := ⟨_, rfl⟩
                go_wp2_with fail
                refine hall.out.mono ?_
                rintro e w12 ⟨av, rfl, ha12, hb12⟩
                obtain ⟨aA, ac, rfl, _⟩ := ha12.form
                have hL12 := Lib.hid (hL.out.below hb12)
                have hs12 := hb12.size
                replace ha12 := Lib.hid ha12
                replace hb12 := Lib.hid hb12
                clear hall
                go_wp2_with fail
                refine (rsame_self T1 _ _ _ _ w12 ha12.out.tab hL12.out hTf1.out).mono ?_
                rintro e w13 ⟨rfl, hb13⟩
                have hs13 := hb13.size
                replace hb13 := Lib.hid hb13
                go_wp2_with fail
                refine (spoil_any T1 _ w12 w11.heap.size w13 ha12.out hTf1.out hb13.out).mono ?_
                rintro e w14 ⟨rfl, hsp⟩
                have hb14 : Below w11.heap.size w11 w14 := (hb12.out.trans (hb13.out.mono hs12)).trans (hsp.below (by omega) (Nat.le_refl _))
                have hR14 := Lib.hid (hR.out.below hb14)
                have hL14 := Lib.hid (hL.out.below hb14)
                clear hsp hb14 hb13 hb12 ha12 hL12 hR hL hs12 hs13
                have hTl := hTf1.out.len
                go_wp2_with fail
                go_loopw [123] (fun i wr => ∃ q : Nat, q ≤ T1.length ∧ i = .int .i64 q ∧ Ref w w.heap.size rb2 g v2 S2 T1 wr ∧ LTab w.heap.size wr (.slice lA1 T1.length lc1) T1) (fun i _ => T1.length - (intOf i).toNat)
                case atStart => exact ⟨0, Nat.zero_le _, rfl, hR14.out, hL14.out⟩
                case round =>
                  clear hR14 hL14
                  obtain ⟨q, hq, rfl, hR, hL⟩ := hrel
                  by_cases hqt : q < T1.length
                  · obtain ⟨b, o, u, rfl, _, hbl2, hU, c0, c1⟩ := TabIs.br hL q hqt
                    obtain ⟨_, tb, ts⟩ := (mayE_zero T1).1 tm.out
                    have hbo := tb T1[q] (List.getElem_mem hqt)
                    have hgt := getT_self ts hqt
                    have hbf := hTf1.out.ok T1[q] (List.getElem_mem hqt)
                    obtain ⟨br, hbr⟩ : ∃ br, br = T1[q] := ⟨_, rfl⟩
                    rw [← hbr] at hU c0 hbo hgt hbf
                    obtain ⟨n, hs⟩ := br
                    dsimp only at hU c0 hgt hbf
                    have hnl := hbf.name
                    have hhf := hbf.heads
                    have hne : hs ≠ [] := hbo.2.1
                    dsimp only at hnl hhf
                    obtain ⟨YA, yc, rfl, _, _⟩ := id hU
                    have hcells := Lib.hid (two_cells c0 c1)
                    obtain ⟨hX1', hbx1⟩ := boxed wr 61 zeroBr [strV n, .slice YA hs.length yc]
                    obtain ⟨W1, hW1⟩ : ∃ W1, W1 = (wr.alloc (.cells zeroBr.toArray 61)).setRow wr.heap.size [strV n, .slice YA hs.length yc].toArray := ⟨_, rfl⟩
                    rw [← hW1] at hX1' hbx1
                    replace hW1 := Lib.hid hW1
                    have hone : Hid (∀ v ∈ [strV n, Value.slice YA hs.length yc], v.oneCell' = true) := Lib.hid (by simp [strV, Value.oneCell'])
                    have hR15 := Lib.hid (hR.below hbx1)
                    have hL15 := Lib.hid (hL.below hbx1)
                    have hU15 := Lib.hid (hU.stayB hbx1)
                    have d0 : W1.cell? ⟨wr.heap.size, 0, none⟩ = some (.string ⟨n.toArray⟩) := by rw [hX1'.cell]; rfl
                    have d1 : W1.cell? ⟨wr.heap.size, 1, none⟩ = some (.slice YA hs.length yc) := by rw [hX1'.cell]; rfl
                    have hget := Lib.hid (get_any rb2 _ _ v2 T1 n _ W1 hR15.out.ref hR15.out.own.tab hTf1.out ts)
                    rw [hgt] at hget
                    unfold GetTo at hget
                    rw [decide_eq_true hne] at hget
                    have i7 : (0 : Int) ≤ (q : Int) := by omega
                    have i8 : (q : Int) < (T1.length : Int) := by omega
                    have hgl : wr.heap.size < W1.heap.size := hX1'.lt
                    unfold strV at hget
                    clear hbr hbo hgt hbf hne hU hR hL c0 c1 ts tb hbx1 hX1'
                    go_wp2_with (first
                      | (refine wpList_load_at 61 (.tmp 125) rfl rfl b (o + q * 2) rfl [strV n, .slice YA hs.length yc] hcells.out _ Tryd.underlying61 rfl brSz ?_; go_frame)
                      | (refine wpList_store_blk rfl 61 (.tmp 18) (.tmp 126) rfl wr.heap.size [strV n, .slice YA hs.length yc] rfl rfl 61 zeroBr (Blk.new_at rfl) rfl brSz hone.out ?_; rw [show (wr.alloc (Obj.cells #[Value.string ⟨#[]⟩, Value.slice none 0 0] 61)).setRow wr.heap.size [strV n, .slice YA hs.length yc].toArray = W1 from hW1.out.symm]; go_frame))
                    refine hget.out.mono ?_
                    rintro e w16 ⟨uv, rfl, hu16, hb16⟩
                    obtain ⟨GA, gc, rfl, _, _⟩ := id hu16
                    have hR16 := Lib.hid (hR15.out.below hb16)
                    have hL16 := Lib.hid (hL15.out.below hb16)
                    have hU16 := Lib.hid (hU15.out.stayB hb16)
                    have e1 : w16.cell? ⟨wr.heap.size, 1, none⟩ = some (.slice YA hs.length yc) := by rw [hb16.cell (p := ⟨wr.heap.size, 1, none⟩) hgl]; exact d1
                    have hds := Lib.hid (dsame_self hs _ _ _ _ w16 hu16 hU16.out hhf)
                    clear hget hu16 hb16 hR15 hL15 hU15 d0 d1
                    go_wp2_with fail
                    refine hds.out.mono ?_
                    rintro e w17 ⟨rfl, hb17⟩
                    have hR17 := Lib.hid (hR16.out.below hb17)
                    have hL17 := Lib.hid (hL16.out.below hb17)
                    clear hds hb17 hR16 hL16 hU16 e1
                    go_wp2
                    go_roundw
                    case rel => exact ⟨q + 1, by omega, by go_num, hR17.out, hL17.out⟩
                    case measure => simp [intOf]; omega
                  · obtain rfl : q = T1.length := by omega
                    obtain ⟨_, _, ts⟩ := (mayE_zero T1).1 tm.out
                    have hget : Hid (Calls Tryd.prog 30 #[.pointer (some ⟨rb2, 0, none⟩), .string ⟨#[110, 111, 32, 115, 117, 99, 104, 32, 110, 97, 109, 101]⟩] wr (GetTo wr [])) := Lib.hid (by
                      have := get_any rb2 _ _ v2 T1 oddN _ wr hR.ref hR.own.tab hTf1.out ts
                      rw [getT_odd tm.out] at this
                      exact this)
                    replace hR := Lib.hid hR
                    replace hL := Lib.hid hL
                    clear ts
                    go_wp2_with fail
                    refine hget.out.mono ?_
                    rintro e w16 ⟨uv, rfl, hu16, hb16⟩
                    obtain ⟨GA, gc, rfl, _, _⟩ := hu16
                    have hfin : Hid (Pl w g rb2 (.slice lA1 T1.length lc1) w16) := Lib.hid ⟨T1, S2, X2, v2, hR.out.below hb16, hS.out, hX.out, hroom.out, hL.out.below hb16⟩
                    have hdd : decide (([] : List Str) ≠ []) = false := by simp
                    rw [hdd]
                    clear hget hb16 hR hL
                    go_wp2
                    go_roundw
                    case rel => exact ⟨k + 1, rb2, by omega, by go_num, rfl, hfin.out⟩
                    case measure => simp [intOf]; omega
    · obtain rfl : k = Cs.length := by omega
      have hb := Lib.hid hR.bel
      clear hR hS hX hroom hL
      go_wp2
      go_ret
      exact ⟨rfl, hb.out⟩
end Go.Proofs.YtlenmkemjaaaoaaDoor
