/- The walk of the law RefsReturns. -/
import Derived.Test.YtlenmkemjaaaoaaDoorRfW3
namespace Go.Proofs.YtlenmkemjaaaoaaDoor
open Go.RowKit

theorem chs_of_row {w : World} {ok : Nat → Prop} {base : Nat} {v : Value} {C : List Chg} {vs : List (Value × Value)} (hl : vs.length = C.length) (ho : w.ownsRow base 46 3 v C.length (cCells C vs))
    (hh : ∀ (k : Nat) b u, C[k]? = some b → vs[k]? = some u → HdIs w ok u.1 b.old ∧ HdIs w ok u.2 b.new) : ChsIs w (fun b => ok b ∨ base ≤ b) v C := by
  have hh' : ∀ (k : Nat) b u, C[k]? = some b → vs[k]? = some u → HdIs w (fun b => ok b ∨ base ≤ b) u.1 b.old ∧ HdIs w (fun b => ok b ∨ base ≤ b) u.2 b.new := fun k b u h1 h2 => ⟨(hh k b u h1 h2).1.stay (fun _ _ _ => rfl) (fun b hb _ => .inl hb), (hh k b u h1 h2).2.stay (fun _ _ _ => rfl) (fun b hb _ => .inl hb)⟩
  rcases ho.2 with ⟨rfl, h0⟩ | ⟨g, cap, cur, rfl, hb, hg, hc1, hc2, hc3, ht⟩
  · have : C = [] := List.eq_nil_of_length_eq_zero h0
    subst this
    exact ChsIs.nil
  · have hB : Blk w g 46 cur.toList := by unfold Blk; simpa using hg
    exact ⟨_, cap, vs, hl, rfl, hc1, Rd.of_blk (r := cur.toList.drop (C.length * 3)) hB (by rw [List.drop_zero, ← ht, List.take_append_drop]) (.inr hb), hh'⟩
theorem backC_fit {C : List Chg} (h : CFit C) : CFit (backC C) := ⟨by simpa [backC] using h.len, fun c hc => by
  obtain ⟨d, hd, rfl⟩ := List.mem_map.1 hc
  exact ⟨(h.ok d hd).name, (h.ok d hd).new, (h.ok d hd).old⟩⟩
theorem backC_take {C : List Chg} {k : Nat} (h : k < C.length) : backC (C.take (k + 1)) = backC (C.take k) ++ [⟨C[k].name, C[k].new, C[k].old⟩] := by
  have e : C.take (k + 1) = C.take k ++ [C[k]] := take_at h
  unfold backC
  rw [e, List.map_append]
  rfl
/-- The changes back, so far. -/
structure BkI (w : World) (base : Nat) (C : List Chg) (k : Nat) (v : Value) (wr : World) : Prop where
  row : ∃ vs : List (Value × Value), vs.length = k ∧ wr.ownsRow base 46 3 v k (cCells (backC (C.take k)) vs) ∧ ∀ (j : Nat) b u, (backC (C.take k))[j]? = some b → vs[j]? = some u → HdIs w (· < w.heap.size) u.1 b.old ∧ HdIs w (· < w.heap.size) u.2 b.new
def allS (C : List Chg) (k : Nat) : Bool := (C.take k).all fun c => decide (c.old = c.new)
theorem allS_step {C : List Chg} {k : Nat} (h : k < C.length) : allS C (k + 1) = (allS C k && decide (C[k].old = C[k].new)) := by
  have e : C.take (k + 1) = C.take k ++ [C[k]] := take_at h
  unfold allS
  rw [e, List.all_append]
  simp
theorem allS_end (C : List Chg) : allS C C.length = true ↔ ∀ c ∈ C, c.old = c.new := by
  unfold allS
  rw [List.take_length]
  simp
set_option maxRecDepth 100000 in
set_option maxHeartbeats 8000000 in
theorem returns_any (T : Tab) (C : List Chg) (v u : Value) (ok ok' : Nat → Prop) (w : World) (h : TabIs w ok v T) (hf : TFit T) (h' : ChsIs w ok' u C) (hc : CFit C) :
    Calls Tryd.prog 7 #[v, u] w fun e w' => e = .returned (.bool true) ∧ Below w.heap.size w w' := by
  have hT := Lib.hid h.ltB
  have hC := Lib.hid h'.ltB
  obtain ⟨A, tc, rfl, htc⟩ := h.form
  obtain ⟨CA, cc, rfl, hcc⟩ := h'.form
  have hap := Lib.hid (apply_any T C (.slice A T.length tc) (.slice CA C.length cc) _ _ w h hf h' hc)
  have hal := Lib.hid alive_any
  have hClen := hc.len
  by_cases hE0 : applyE T C = 0
  · have hfin := Lib.hid (back_undoes hE0 hf.tok hc.cok)
    have hagain := Lib.hid (again_does hE0 hf.tok hc.cok)
    have hC32 : C.length ≤ 32 := ((apply_zero T C).1 hE0).2.1
    have hRf := Lib.hid (applyT_fit hf hc)
    obtain ⟨R, hR⟩ : ∃ R, R = applyT T C := ⟨_, rfl⟩
    unfold ApplyTo at hap
    rw [hE0, ← hR] at hap
    rw [← hR] at hfin hagain hRf
    have hbf := Lib.hid (backC_fit hc)
    have hlT := hf.len
    replace hf := Lib.hid hf
    replace hc := Lib.hid hc
    clear hR hE0 h h' htc hcc
    go_enter Tryd.func7, Tryd.ntmps7
    go_wp2_with fail
    refine hap.out.mono ?_
    rintro e w1 ⟨m, rfl, hm1, hb1⟩
    obtain ⟨MA, mc, rfl, _⟩ := hm1.form
    have hs1 := hb1.size
    replace hm1 := Lib.hid hm1
    replace hb1 := Lib.hid hb1
    clear hap
    go_wp2_with fail
    go_loopw [31, 7] (fun i bv wr => ∃ k : Nat, k ≤ C.length ∧ i = .int .i64 k ∧ BkI w w1.heap.size C k bv wr ∧ Below w1.heap.size w1 wr) (fun i _ _ => C.length - (intOf i).toNat)
    case atStart => exact ⟨0, Nat.zero_le _, rfl, ⟨[], rfl, ⟨rfl, .inl ⟨rfl, rfl⟩⟩, fun j b u h _ => by simp [backC] at h⟩, Below.refl _ _⟩
    case round =>
      obtain ⟨k, hk, rfl, hI, hb⟩ := hrel
      obtain ⟨vs, hvl, hrow, hheads⟩ := hI.row
      obtain ⟨FA, fc, rfl, _, _⟩ := own_form hrow
      clear hI
      have hb0 := hb1.out.trans (hb.mono hs1)
      have hsb := hb.size
      by_cases hlt : k < C.length
      · obtain ⟨b, o, x, y, rfl, hbl0, hbl, hX, hY, hcells⟩ := (hC.out.low hb0).ch k hlt
        obtain ⟨b', o', x', y', e', _, _, hX0, hY0, hcells0⟩ := hC.out.ch k hlt
        cases e'
        obtain ⟨c0, c1, c2⟩ := three_cells hcells
        obtain ⟨z0, z1, z2⟩ := three_cells hcells0
        have q1 := hb0.cell (p := ⟨b, o + k * 3 + 1, none⟩) hbl0
        have q2 := hb0.cell (p := ⟨b, o + k * 3 + 2, none⟩) hbl0
        rw [z1, c1] at q1
        rw [z2, c2] at q2
        cases q1
        cases q2
        have hbk := backC_take hlt
        obtain ⟨c, hcc2⟩ : ∃ c, c = C[k] := ⟨_, rfl⟩
        rw [← hcc2] at hX0 hY0 c0 hbk
        obtain ⟨XA, xc, rfl, _, _⟩ := id hX0
        obtain ⟨YA, yc, rfl, _, _⟩ := id hY0
        unfold strV at c0
        have i1 : (0 : Int) ≤ (k : Int) := by omega
        have i2 : (k : Int) < (C.length : Int) := by omega
        have hSW : Hid (∀ w', Below wr.heap.size wr w' → w'.cell? ⟨b, o + k * 3, none⟩ = some (.string ⟨c.name.toArray⟩) ∧ w'.cell? ⟨b, o + k * 3 + 1, none⟩ = some (.slice XA c.old.length xc) ∧ w'.cell? ⟨b, o + k * 3 + 2, none⟩ = some (.slice YA c.new.length yc)) := Lib.hid (fun W hW =>
          ⟨by rw [hW.cell (p := ⟨b, o + k * 3, none⟩) hbl]; exact c0, by rw [hW.cell (p := ⟨b, o + k * 3 + 1, none⟩) hbl]; exact c1, by rw [hW.cell (p := ⟨b, o + k * 3 + 2, none⟩) hbl]; exact c2⟩)
        have hne : Hid (∀ g, (Value.slice FA k fc).ownBlock = some g → g ≠ b) := Lib.hid (fun g hg e => by
          have h1 := (hrow.lt g hg).1
          omega)
        have hSR : Hid (∀ o' w', ((wr.alloc o').drew).grownBy w' (Value.slice FA k fc).ownBlock → w'.cell? ⟨b, o + k * 3, none⟩ = some (.string ⟨c.name.toArray⟩) ∧ w'.cell? ⟨b, o + k * 3 + 1, none⟩ = some (.slice XA c.old.length xc) ∧ w'.cell? ⟨b, o + k * 3 + 2, none⟩ = some (.slice YA c.new.length yc)) := Lib.hid (fun o' W4 hg => by
          have hW := Below.al1 wr o'
          have hlt : b < ((wr.alloc o').drew).heap.size := Nat.lt_of_lt_of_le hbl hW.size
          have hblk : W4.heap[b]? = ((wr.alloc o').drew).heap[b]? := hg.block _ hlt (fun e => hne.out _ e.symm rfl)
          rw [World.cell?_of_block (a := ⟨b, o + k * 3, none⟩) hblk, World.cell?_of_block (a := ⟨b, o + k * 3 + 1, none⟩) hblk, World.cell?_of_block (a := ⟨b, o + k * 3 + 2, none⟩) hblk]
          exact hSW.out _ hW)
        have hRW := Lib.hid (fun W (hW : Below wr.heap.size wr W) => own_touch (L := []) hrow (Touch.ofBelow hW) (by simp))
        have hbd : Hid (Below wr.heap.size wr wr.drew) := Lib.hid (Below.refl _ _).drew
        have hbkl : (backC (C.take k)).length = k := by simp [backC]; omega
        replace hrow := Lib.hid hrow
        replace hheads := Lib.hid hheads
        replace hX0 := Lib.hid hX0
        replace hY0 := Lib.hid hY0
        replace hbk := Lib.hid hbk
        replace hb := Lib.hid hb
        replace hvl := Lib.hid hvl
        replace hbkl := Lib.hid hbkl
        clear hcc2 hX hY hcells hcells0 z0 z1 z2 hb0
        go_wp2
        go_region_held3 (fun w' => w'.cell? ⟨b, o + k * 3, none⟩ = some (.string ⟨c.name.toArray⟩) ∧ w'.cell? ⟨b, o + k * 3 + 1, none⟩ = some (.slice XA c.old.length xc) ∧ w'.cell? ⟨b, o + k * 3 + 2, none⟩ = some (.slice YA c.new.length yc)) (first | exact hSR.out _ _ hg4.out | exact hSW.out _ (Below.al1 wr _) | exact hSW.out _ hbd.out | go_keep)
          (first
            | (refine step_append_rd _ rfl (.tmp 34) (.tmp 51) 37 rfl w1.heap.size 46 (.agg zeroCh.toArray) 3 64 Tryd.underlying37 chInfo (.slice FA k fc) k (cCells (backC (C.take k)) vs) rfl (hRW.out _ (Below.al1 wr _)) (fun _ => True) (some ⟨wr.heap.size, 0, none⟩) 1 1 [.string ⟨c.name.toArray⟩, .slice YA c.new.length yc, .slice XA c.old.length xc] rfl rfl (Rd.of_blk (cs := [.string ⟨c.name.toArray⟩, .slice YA c.new.length yc, .slice XA c.old.length xc]) (r := []) (Blk.drew (Blk.new_at rfl)) rfl trivial) (by simp [Value.oneCell']) (by unfold maxLen; omega) (by omega) (by simp; omega) ?_; intro v4 W4 hrow4 hg4 hv4; replace hrow4 := Lib.hid hrow4; replace hg4 := Lib.hid hg4; clear hv4; obtain ⟨VA, vc, rfl, _, _⟩ := own_form hrow4.out))
        go_wp2
        go_roundw
        case rel =>
          refine ⟨k + 1, by omega, by go_num, ⟨⟨vs ++ [(.slice YA c.new.length yc, .slice XA c.old.length xc)], by simp [hvl.out], ?_, (zip_all _ _).2 (fun q hq => ?_)⟩⟩, hb.out.trans (((Below.al1 wr _).mono hsb).trans (own_below (hRW.out _ (Below.al1 wr _)) hg4.out (by simp; omega)))⟩
          · rw [hbk.out, cCells_app _ _ (by rw [hvl.out, hbkl.out])]
            exact hrow4.out
          · rw [hbk.out, List.zip_append (by rw [hvl.out, hbkl.out])] at hq
            rcases List.mem_append.1 hq with hq | hq
            · exact (zip_all _ _).1 hheads.out q hq
            · simp only [List.zip_cons_cons, List.zip_nil_left, List.mem_singleton] at hq
              subst hq
              exact ⟨hY0.out, hX0.out⟩
        case measure => simp [intOf]; omega
      · obtain rfl : k = C.length := by omega
        rw [List.take_length] at hrow hheads
        have hbkl : (backC C).length = C.length := by simp [backC]
        have hbc : ChsIs wr (fun b => b < w.heap.size ∨ w1.heap.size ≤ b) (.slice FA C.length fc) (backC C) := chs_of_row (by rw [hvl, hbkl]) (by rw [hbkl]; exact hrow) (fun j b u h1 h2 => ⟨(hheads j b u h1 h2).1.low hb0, (hheads j b u h1 h2).2.low hb0⟩)
        have hm2 := hm1.out.keepB hb
        have hap2 := Lib.hid (apply_any R (backC C) (.slice MA R.length mc) (.slice FA C.length fc) _ _ wr hm2.tab hRf.out hbc hbf.out)
        unfold ApplyTo at hap2
        rw [hfin.out.1, hfin.out.2] at hap2
        replace hb := Lib.hid hb
        replace hb0 := Lib.hid hb0
        clear hrow hheads hbc hm2 hvl
        go_wp2_with fail
        refine hap2.out.mono ?_
        rintro e w3 ⟨k3, rfl, hk3, hb3'⟩
        obtain ⟨KA, kc, rfl, _⟩ := hk3.form
        have hb03 := Lib.hid (hb0.out.trans (hb3'.mono hb0.out.size))
        have hb13 := Lib.hid (hb.out.trans (hb3'.mono hb.out.size))
        replace hk3 := Lib.hid hk3
        clear hap2 hb3'
        have hap3 := Lib.hid (apply_any R C (.slice MA R.length mc) (.slice CA C.length cc) _ _ w3 (hm1.out.keepB hb13.out).tab hRf.out (hC.out.low hb03.out) hc.out)
        unfold ApplyTo at hap3
        obtain ⟨E2, hE2⟩ : ∃ E, E = applyE R C := ⟨_, rfl⟩
        obtain ⟨R2, hR2⟩ : ∃ E, E = applyT R C := ⟨_, rfl⟩
        rw [← hE2, ← hR2] at hap3 hagain
        clear hE2 hR2
        go_wp2_with fail
        refine hap3.out.mono ?_
        rintro e w4 ⟨a4, rfl, ha4, hb4'⟩
        obtain ⟨LA, lc, rfl, _⟩ := ha4.form
        have hb04 := hb03.out.trans (hb4'.mono hb03.out.size)
        have hb14 := Lib.hid (hb13.out.trans (hb4'.mono hb13.out.size))
        have hk4 := Lib.hid (hk3.out.keepB hb4')
        replace ha4 := Lib.hid ha4
        clear hap3 hb4' hk3 hb03 hb13
        go_wp2_with fail
        go_loopw [68, 13] (fun i s wr => ∃ k : Nat, k ≤ C.length ∧ i = .int .i64 k ∧ s = .bool (allS C k) ∧ Below w.heap.size w wr ∧ Below w4.heap.size w4 wr) (fun i _ _ => C.length - (intOf i).toNat)
        case atStart => exact ⟨0, Nat.zero_le _, rfl, rfl, hb04, Below.refl _ _⟩
        case round =>
          clear hb04
          obtain ⟨k, hk, rfl, rfl, hb5, hb45⟩ := hrel
          by_cases hlt : k < C.length
          · have hst := allS_step hlt
            obtain ⟨b, o, x, y, rfl, hbl0, hbl, hX, hY, hcells⟩ := (hC.out.low hb5).ch k hlt
            have hc1 := hc.out.ok C[k] (List.getElem_mem hlt)
            obtain ⟨c1, c2⟩ := (three_cells hcells).2
            obtain ⟨c, hcc2⟩ : ∃ c, c = C[k] := ⟨_, rfl⟩
            rw [← hcc2] at hX hY hst hc1
            obtain ⟨XA, xc, rfl, _, _⟩ := id hX
            obtain ⟨YA, yc, rfl, _, _⟩ := id hY
            obtain ⟨s, hs⟩ : ∃ s, s = allS C k := ⟨_, rfl⟩
            rw [← hs] at hst ⊢
            have i1 : (0 : Int) ≤ (k : Int) := by omega
            have i2 : (k : Int) < (C.length : Int) := by omega
            have hcell1 : Hid (∀ s : Over wr, s.1.cell? ⟨b, o + k * 3 + 1, none⟩ = some (.slice XA c.old.length xc)) := Lib.hid (fun s => by rw [s.2.cell (p := ⟨b, o + k * 3 + 1, none⟩) hbl]; exact c1)
            have hcell2 : Hid (∀ s : Over wr, s.1.cell? ⟨b, o + k * 3 + 2, none⟩ = some (.slice YA c.new.length yc)) := Lib.hid (fun s => by rw [s.2.cell (p := ⟨b, o + k * 3 + 2, none⟩) hbl]; exact c2)
            have hsm := Lib.hid (fun s : Over wr => dsame_any c.old c.new (.slice XA c.old.length xc) (.slice YA c.new.length yc) _ _ s.1 (hX.stayB s.2) (hY.stayB s.2) hc1.old hc1.new)
            obtain ⟨r, hr⟩ : ∃ r, r = decide (c.old = c.new) := ⟨_, rfl⟩
            rw [← hr] at hsm hst
            clear hcc2 hr hs hX hY hcells hc1 c1 c2
            cases s
            · replace hst : Hid (allS C (k + 1) = false) := Lib.hid hst
              clear hsm hcell1 hcell2
              go_wp2
              go_quiet (fail)
              go_wp2
              go_roundw
              case rel => exact ⟨k + 1, by omega, by go_num, by rw [hst.out], below_drewN hb5 nq, below_drewN hb45 nq⟩
              case measure => simp [intOf]; omega
            · replace hst : Hid (allS C (k + 1) = r) := Lib.hid (by rw [hst, Bool.true_and])
              haveI := over_nonempty wr
              go_wp2
              refine quiet_over (by kernel_rfl) (by kernel_rfl) ?_
              repeat (first
                | (refine wpQuiet_cell 44 (.tmp 76) rfl rfl b (o + k * 3 + 1) rfl (.slice XA c.old.length xc) (fun w hw => ?_) aggHd ?_
                   · obtain ⟨s, rfl⟩ := hw
                     exact hcell1.out s
                   go_frame)
                | (refine wpQuiet_cell 44 (.tmp 81) rfl rfl b (o + k * 3 + 2) rfl (.slice YA c.new.length yc) (fun w hw => ?_) aggHd ?_
                   · obtain ⟨s, rfl⟩ := hw
                     exact hcell2.out s
                   go_frame)
                | go_big_quiet_step ((go_at_call 24; exact calls_over _ (hsm.out _))))
              refine wpQuiet_nil ?_
              rintro _ ⟨s, rfl⟩
              have hb6 := hb5.trans (s.2.mono hb5.size)
              have hb46 := hb45.trans (s.2.mono hb45.size)
              obtain ⟨w6, hw6⟩ := s
              dsimp only at hb6 hb46 ⊢
              clear this hw6 hcell1 hcell2 hsm
              go_wp2
              go_roundw
              case rel => exact ⟨k + 1, by omega, by go_num, by rw [hst.out], hb6, hb46⟩
              case measure => simp [intOf]; omega
          · obtain rfl : k = C.length := by omega
            have hse := allS_end C
            obtain ⟨s, hs⟩ : ∃ s, s = allS C C.length := ⟨_, rfl⟩
            rw [← hs] at hse ⊢
            have hk5 := Lib.hid (hk4.out.keepB hb45)
            have ha5 := Lib.hid (ha4.out.keepB hb45)
            have hm5 := Lib.hid (hm1.out.keepB (hb14.out.trans (hb45.mono hb14.out.size)))
            have hT5 := Lib.hid (hT.out.low hb5)
            clear hs hb45 hk4 ha4
            cases s
            · have hno : ¬ ∀ c ∈ C, c.old = c.new := fun h => by have := hse.2 h; cases this
              have hE12 := hagain.out
              rw [if_neg hno] at hE12
              subst hE12
              clear hse hno hagain
              go_wp2_with fail
              refine (rsame_self T _ _ _ _ wr hk5.out.tab hT5.out hf.out).mono ?_
              rintro e w7 ⟨rfl, hb7'⟩
              have hb7 := Lib.hid (hb5.trans (hb7'.mono hb5.size))
              clear hb7'
              go_wp2_with fail
              refine (hal.out w7).mono ?_
              rintro e w8 ⟨rfl, hb8'⟩
              have hb8 := Lib.hid (hb7.out.trans (hb8'.mono hb7.out.size))
              clear hb8'
              go_wp2
              go_ret
              exact ⟨rfl, hb8.out⟩
            · have hno : ∀ c ∈ C, c.old = c.new := hse.1 rfl
              have hE12 := hagain.out
              rw [if_pos hno] at hE12
              obtain ⟨e1, e2⟩ := hE12
              subst e1
              subst e2
              clear hse hno hagain
              go_wp2_with fail
              refine (rsame_self T _ _ _ _ wr hk5.out.tab hT5.out hf.out).mono ?_
              rintro e w7 ⟨rfl, hb7'⟩
              have hb7 := Lib.hid (hb5.trans (hb7'.mono hb5.size))
              have ha7 := Lib.hid (ha5.out.keepB hb7')
              have hm7 := Lib.hid (hm5.out.keepB hb7')
              clear hb7' ha5 hm5
              go_wp2_with fail
              refine (rsame_self R2 _ _ _ _ w7 ha7.out.tab hm7.out.tab hRf.out).mono ?_
              rintro e w9 ⟨rfl, hb9'⟩
              have hb9 := Lib.hid (hb7.out.trans (hb9'.mono hb7.out.size))
              clear hb9'
              go_wp2_with fail
              refine (hal.out w9).mono ?_
              rintro e w8 ⟨rfl, hb8'⟩
              have hb8 := Lib.hid (hb9.out.trans (hb8'.mono hb9.out.size))
              clear hb8'
              go_wp2
              go_ret
              exact ⟨rfl, hb8.out⟩
  · have hR : applyT T C = [] := by unfold applyT; rw [if_neg hE0]
    obtain ⟨E, hE⟩ : ∃ E, E = applyE T C := ⟨_, rfl⟩
    unfold ApplyTo at hap
    rw [hR, ← hE] at hap
    have g1 : (E != 0) = true := by simpa using (by rw [hE]; exact hE0 : E ≠ 0)
    clear hR hE hE0 h h' htc hcc hf hc
    go_enter Tryd.func7, Tryd.ntmps7
    go_wp2_with fail
    refine hap.out.mono ?_
    rintro e w1 ⟨m, rfl, hm1, hb1⟩
    obtain ⟨MA, mc, rfl, _⟩ := hm1.form
    clear hm1
    replace hb1 := Lib.hid hb1
    go_wp2_with fail
    refine (hal.out w1).mono ?_
    rintro e w2 ⟨rfl, hb2⟩
    have hb := Lib.hid (hb1.out.trans (hb2.mono hb1.out.size))
    clear hb2
    go_wp2
    go_ret
    exact ⟨rfl, hb.out⟩
end Go.Proofs.YtlenmkemjaaaoaaDoor
