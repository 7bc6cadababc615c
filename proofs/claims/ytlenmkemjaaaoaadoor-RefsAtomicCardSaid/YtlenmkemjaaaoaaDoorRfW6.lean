/- The walk of the law RefsLasts. -/
import Derived.Test.YtlenmkemjaaaoaaDoorRfOr
import Derived.Test.YtlenmkemjaaaoaaDoorRfW3
namespace Go.Proofs.YtlenmkemjaaaoaaDoor
open Go.RowKit

theorem OwnTab.keeps {W W' : World} {base : Nat} {v : Value} {T : Tab} (h : OwnTab W base v T) (hK : Keeps W W') : OwnTab W' base v T := by
  obtain ⟨vs, hl, ⟨h1, ho⟩, hh⟩ := h
  refine ⟨vs, hl, ⟨h1, ?_⟩, fun k b u e1 e2 => (hh k b u e1 e2).keep (fun b cs _ hB => hK b _ cs hB (by decide) (by decide) (by decide))⟩
  rcases ho with h0 | ⟨g, cap, cur, e, hb, hg, hc1, hc2, hc3, ht⟩
  · exact .inl h0
  · have hB : Blk W g 61 cur.toList := by unfold Blk; simpa using hg
    have hB' := hK g _ _ hB (by decide) (by decide) (by decide)
    exact .inr ⟨g, cap, cur, e, hb, by unfold Blk at hB'; simpa using hB', hc1, hc2, hc3, ht⟩
theorem disk_one {W : World} {g bn bs bn' bs' : Nat} {v v' : Value} {S : DS} (h : DiskAt W g bn bs v S) (h' : DiskAt W g bn' bs' v' S) : foot g bn bs v = foot g bn' bs' v' := by
  have e1 := h.blk
  have e2 := h'.blk
  unfold Blk at e1 e2
  rw [e1] at e2
  injection e2 with e2
  injection e2 with e2
  have e3 := congrArg Array.toList e2
  simp only [dCells, List.cons.injEq, Value.map.injEq, Option.some.injEq] at e3
  obtain ⟨rfl, rfl, rfl, _⟩ := e3
  rfl
theorem crash_low {w0 : World} {base rb g : Nat} {v : Value} {S : DS} {T : Tab} {W : World} {X : Option Str} (h : Ref w0 base rb g v S T W) (hS : Live S X) {l : List Int} {A : Option Addr} {c : Nat}
    (hl : Nums W (· < base) A l) (hf : NmFit l) :
    Calls Tryd.prog 28 #[.pointer (some ⟨g, 0, none⟩), .slice A l.length c] W fun e W' => e = .returned (.tuple #[]) ∧ Ref w0 base rb g v S T W' ∧ Keeps W W' := by
  refine crash_live h hS l A c (fun bn bs pv hD => ?_) hf.max (by have := hf.len; omega)
  obtain ⟨L, ⟨bn', bs', pv', hD', rfl⟩, hL⟩ := h.disk
  rw [disk_one hD hD']
  exact Rd.stay hl (fun _ _ _ => rfl) (fun b hb hlt => ⟨fun hm => by have := hL b hm; omega, hlt⟩)
theorem Nums.low {w w' : World} {B : Nat} {A : Option Addr} {l : List Int} (h : Nums w (· < B) A l) (hb : Below B w w') : Nums w' (· < B) A l := Rd.stay h (fun b hlt _ => hb.block b hlt) (fun _ h _ => h)
set_option maxRecDepth 100000 in
set_option maxHeartbeats 8000000 in
theorem lasts_any (Cs : List (List Chg)) (v x y : Value) (lx ly : List Int) (w : World) (h : RwIs w (· < w.heap.size) v Cs) (hf : ∀ C ∈ Cs, CFit C) (hl : Cs.length ≤ 5864062014805)
    (hx : NmIs w (· < w.heap.size) x lx) (hfx : NmFit lx) (hy : NmIs w (· < w.heap.size) y ly) (hfy : NmFit ly) :
    Calls Tryd.prog 9 #[v, .agg #[x, y]] w fun e w' => e = .returned (.bool true) ∧ Below w.heap.size w w' := by
  obtain ⟨A, c, rfl, hc⟩ := h.form
  obtain ⟨XA, xc, rfl, hxc, hnx⟩ := hx
  obtain ⟨YA, yc, rfl, hyc, hny⟩ := hy
  obtain ⟨w1, hw1⟩ : ∃ w1, w1 = w.alloc (.cells #[.slice XA lx.length xc, .slice YA ly.length yc] 66) := ⟨_, rfl⟩
  have hbx : Blk w1 w.heap.size 66 [.slice XA lx.length xc, .slice YA ly.length yc] := by rw [hw1]; exact Blk.new_at rfl
  have hb1 : Below w.heap.size w w1 := by rw [hw1]; exact (Below.refl _ _).alloc (Nat.le_refl _) _
  have hs1 : w.heap.size < w1.heap.size := hbx.lt
  have hR1 : Hid (RwIs w1 (· < w1.heap.size) (.slice A Cs.length c) Cs) := Lib.hid ((h.low hb1).stay (fun _ _ _ => rfl) (fun _ _ hlt => hlt))
  have hX1 : Hid (Nums w1 (· < w1.heap.size) XA lx) := Lib.hid (Rd.stay (hnx.low hb1) (fun _ _ _ => rfl) (fun _ _ hlt => hlt))
  have hY1 : Hid (Nums w1 (· < w1.heap.size) YA ly) := Lib.hid (Rd.stay (hny.low hb1) (fun _ _ _ => rfl) (fun _ _ hlt => hlt))
  have hfr := Lib.hid (fresh_any w1)
  replace hbx := Lib.hid hbx
  replace hf := Lib.hid hf
  replace hb1 := Lib.hid hb1
  replace hw1 := Lib.hid hw1
  have hal := Lib.hid alive_any
  clear h hnx hny
  go_enter Tryd.func9, Tryd.ntmps9
  go_wp2_with fail
  rw [show w.alloc (Obj.cells #[Value.slice XA lx.length xc, Value.slice YA ly.length yc] 66) = w1 from hw1.out.symm]
  refine hfr.out.mono ?_
  rintro e w2 ⟨g, rfl, hses⟩
  replace hses := Lib.hid hses
  clear hfr
  go_wp2_with fail
  refine (open1 hses.out).mono ?_
  rintro e w3 ⟨rb, rv, rfl, hR3⟩
  replace hR3 := Lib.hid hR3
  clear hses
  go_wp2_with fail
  refine (hal.out w3).mono ?_
  rintro e w4 ⟨rfl, hb4⟩
  have hR4 := Lib.hid (hR3.out.below hb4)
  clear hR3 hb4
  go_wp2_with fail
  go_loopw [36] (fun i wr => ∃ (k : Nat) (T : Tab) (S : DS) (X : Option Str) (v : Value), k ≤ Cs.length ∧ i = .int .i64 k ∧ Ref w1 w1.heap.size rb g v S T wr ∧ Live S X ∧ TextOf X T ∧ S.room = 1048576) (fun i _ => Cs.length - (intOf i).toNat)
  case atStart => exact ⟨0, [], DS.new 1048576, none, rv, Nat.zero_le _, rfl, hR4.out, Live.new (by decide) (by decide), .inl ⟨rfl, rfl⟩, rfl⟩
  case round =>
    clear hR4
    obtain ⟨k, T, S, X, v, hk, rfl, hR, hS, hX, hroom⟩ := hrel
    by_cases hlt : k < Cs.length
    · obtain ⟨b, o, u, rfl, hb0, hbl, hC, c0⟩ := (hR1.out.low hR.bel).at k hlt
      have hcf := Lib.hid (hf.out Cs[k] (List.getElem_mem hlt))
      obtain ⟨C, hCk⟩ : ∃ C, C = Cs[k] := ⟨_, rfl⟩
      rw [← hCk] at hC hcf
      obtain ⟨UA, uc, rfl, _⟩ := hC.form
      have how := Lib.hid (lown_any C _ _ wr hC hcf.out)
      have i1 : (0 : Int) ≤ (k : Int) := by omega
      have i2 : (k : Int) < (Cs.length : Int) := by omega
      replace hR := Lib.hid hR
      replace hS := Lib.hid hS
      replace hX := Lib.hid hX
      replace hroom := Lib.hid hroom
      clear hCk hC
      go_wp2_with fail
      refine how.out.mono ?_
      rintro e w5 ⟨xv, rfl, hx5, hb5⟩
      obtain ⟨VA, vc, rfl, _⟩ := hx5.form
      have hdo := Lib.hid (do_live (hR.out.below hb5) hS.out hX.out (by rw [hroom.out]; decide) hx5.chs hcf.out)
      clear hx5 hb5 how hR
      go_wp2_with fail
      refine hdo.out.mono ?_
      rintro e w6 ⟨rfl, hK6, hif⟩
      have hnext : Hid (∃ (T : Tab) (S : DS) (X : Option Str) (v : Value), Ref w1 w1.heap.size rb g v S T w6 ∧ Live S X ∧ TextOf X T ∧ S.room = 1048576) := Lib.hid (by
        by_cases hE : applyE T C = 0
        · rw [if_pos hE] at hif
          obtain ⟨v', S', X', q1, q2, q3, q4⟩ := hif
          exact ⟨_, S', X', v', q1, q2, q3, q4.trans hroom.out⟩
        · rw [if_neg hE] at hif
          exact ⟨T, S, X, v, hif, hS.out, hX.out, hroom.out⟩)
      generalize applyE T C = E at hif ⊢
      clear hif hdo hK6 hS hX hroom
      go_wp2
      go_roundw
      case rel =>
        obtain ⟨T', S', X', v', q1, q2, q3, q4⟩ := hnext.out
        exact ⟨k + 1, T', S', X', v', by omega, by go_num, q1, q2, q3, q4⟩
      case measure => simp [intOf]; omega
    · obtain rfl : k = Cs.length := by omega
      obtain ⟨tm, th⟩ := hX.tok
      have hTf := Lib.hid (tfit_of tm th)
      have hall := Lib.hid (all_any rb _ _ v T _ wr hR.ref hR.own.tab hTf.out)
      replace hR := Lib.hid hR
      replace hS := Lib.hid hS
      replace hX := Lib.hid hX
      clear hroom tm th
      go_wp2_with fail
      refine hall.out.mono ?_
      rintro e w5 ⟨lv, rfl, hl5, hb5⟩
      obtain ⟨LA, lc, rfl, _⟩ := hl5.form
      have hR5 := Lib.hid (hR.out.below hb5)
      obtain ⟨lo, hlo⟩ : ∃ lo, lo = wr.heap.size := ⟨_, rfl⟩
      rw [← hlo] at hl5
      replace hl5 := Lib.hid hl5
      clear hall hR hb5 hlo
      go_wp2
      go_loopw [11] (fun i wr => ∃ (k rb : Nat) (v : Value), k ≤ 2 ∧ i = .int .i64 k ∧ Ref w1 w1.heap.size rb g v S T wr ∧ OwnTab wr lo (.slice LA T.length lc) T) (fun i _ => 2 - (intOf i).toNat)
      case atStart => exact ⟨0, rb, v, by omega, rfl, hR5.out, hl5.out⟩
      case round =>
        clear hR5 hl5
        obtain ⟨k, rb', v', hk, rfl, hR, hl⟩ := hrel
        have hBx := hbx.out.below hR.bel hs1
        have c0 : wr.cell? ⟨w.heap.size, 0, none⟩ = some (.slice XA lx.length xc) := by rw [hBx.cell]; rfl
        have c1 : wr.cell? ⟨w.heap.size, 1, none⟩ = some (.slice YA ly.length yc) := by rw [hBx.cell]; rfl
        have hcx := Lib.hid (crash_low (c := xc) hR hS.out (hX1.out.low hR.bel) hfx)
        have hcy := Lib.hid (crash_low (c := yc) hR hS.out (hY1.out.low hR.bel) hfy)
        have hbb := Lib.hid (hb1.out.trans (hR.bel.mono (Nat.le_of_lt hs1)))
        clear hBx hR
        replace hl := Lib.hid hl
        rcases (show k = 0 ∨ k = 1 ∨ k = 2 by omega) with rfl | rfl | rfl
        · go_wp2_with fail
          refine hcx.out.mono ?_
          rintro e w6 ⟨rfl, hR6, hK6⟩
          have hl6 := Lib.hid (hl.out.keeps hK6)
          have hop := Lib.hid (open_live hR6.toSes hS.out hX.out)
          clear hcx hcy c0 c1 hR6 hK6
          go_wp2_with fail
          refine hop.out.mono ?_
          rintro e w7 ⟨rb7, v7, rfl, hR7, hK7⟩
          have hl7 := Lib.hid (hl6.out.keeps hK7)
          have hall := Lib.hid (all_any rb7 _ _ v7 T _ w7 hR7.ref hR7.own.tab hTf.out)
          replace hR7 := Lib.hid hR7
          clear hop hK7 hl6
          go_wp2_with fail
          refine hall.out.mono ?_
          rintro e w8 ⟨a8, rfl, ha8, hb8⟩
          obtain ⟨MA, mc, rfl, _⟩ := ha8.form
          have hR8 := Lib.hid (hR7.out.below hb8)
          have hl8 := Lib.hid (hl7.out.keepB hb8)
          replace ha8 := Lib.hid ha8
          clear hall hb8 hR7 hl7
          go_wp2_with fail
          refine (rsame_self T _ _ _ _ w8 ha8.out.tab hl8.out.tab hTf.out).mono ?_
          rintro e w9 ⟨rfl, hb9⟩
          have hR9 := Lib.hid (hR8.out.below hb9)
          have hl9 := Lib.hid (hl8.out.keepB hb9)
          clear hb9 hR8 hl8 ha8
          go_wp2
          go_roundw
          case rel => exact ⟨1, rb7, v7, by omega, by go_num, hR9.out, hl9.out⟩
          case measure => simp [intOf]
        · go_wp2_with fail
          refine hcy.out.mono ?_
          rintro e w6 ⟨rfl, hR6, hK6⟩
          have hl6 := Lib.hid (hl.out.keeps hK6)
          have hop := Lib.hid (open_live hR6.toSes hS.out hX.out)
          clear hcx hcy c0 c1 hR6 hK6
          go_wp2_with fail
          refine hop.out.mono ?_
          rintro e w7 ⟨rb7, v7, rfl, hR7, hK7⟩
          have hl7 := Lib.hid (hl6.out.keeps hK7)
          have hall := Lib.hid (all_any rb7 _ _ v7 T _ w7 hR7.ref hR7.own.tab hTf.out)
          replace hR7 := Lib.hid hR7
          clear hop hK7 hl6
          go_wp2_with fail
          refine hall.out.mono ?_
          rintro e w8 ⟨a8, rfl, ha8, hb8⟩
          obtain ⟨MA, mc, rfl, _⟩ := ha8.form
          have hR8 := Lib.hid (hR7.out.below hb8)
          have hl8 := Lib.hid (hl7.out.keepB hb8)
          replace ha8 := Lib.hid ha8
          clear hall hb8 hR7 hl7
          go_wp2_with fail
          refine (rsame_self T _ _ _ _ w8 ha8.out.tab hl8.out.tab hTf.out).mono ?_
          rintro e w9 ⟨rfl, hb9⟩
          have hR9 := Lib.hid (hR8.out.below hb9)
          have hl9 := Lib.hid (hl8.out.keepB hb9)
          clear hb9 hR8 hl8 ha8
          go_wp2
          go_roundw
          case rel => exact ⟨2, rb7, v7, by omega, by go_num, hR9.out, hl9.out⟩
          case measure => simp [intOf]
        · clear hcx hcy c0 c1 hl
          go_wp2
          go_ret
          exact ⟨rfl, hbb.out⟩
end Go.Proofs.YtlenmkemjaaaoaaDoor
