/- The walk of the law RefsApplies. -/
import Derived.Test.YtlenmkemjaaaoaaDoorRfSl
import Derived.Test.YtlenmkemjaaaoaaDoorRfAp
import Derived.Test.YtlenmkemjaaaoaaDoorRfSm
namespace Go.Proofs.YtlenmkemjaaaoaaDoor
open Go.RowKit

theorem TbK.lo {w1 : World} {lo b : Nat} (h : TbK w1 lo b) : lo ≤ b := h.1
theorem TbK.hi {w1 : World} {lo b : Nat} (h : TbK w1 lo b) : b < w1.heap.size := by
  rcases h.2 with ⟨cs, h⟩ | ⟨cs, h⟩ <;> exact h.lt
theorem Spoilt.below {w1 w w' : World} {lo B : Nat} (h : Spoilt (TbK w1 lo) w w') (h1 : lo ≤ w.heap.size) (hB : B ≤ lo) : Below B w w' :=
  ⟨h.os, h.tape, h.output, h.size, fun k hk => h.block k (by omega) (fun ht => by have := ht.lo; omega)⟩
def ChAt (w : World) (base b : Nat) : Prop := base ≤ b ∧ ((∃ cs, Blk w b 46 cs) ∨ ∃ cs, Blk w b 57 cs)
theorem OwnChs.chs {w : World} {base : Nat} {v : Value} {C : List Chg} (h : OwnChs w base v C) : ChsIs w (ChAt w base) v C := by
  obtain ⟨vs, hl, ho, hh⟩ := h
  have hh' : ∀ (k : Nat) b u, C[k]? = some b → vs[k]? = some u → HdIs w (ChAt w base) u.1 b.old ∧ HdIs w (ChAt w base) u.2 b.new := fun k b u h1 h2 => ⟨(hh k b u h1 h2).1.stay (fun _ _ _ => rfl) (fun b hb _ => ⟨hb.1, .inr hb.2⟩), (hh k b u h1 h2).2.stay (fun _ _ _ => rfl) (fun b hb _ => ⟨hb.1, .inr hb.2⟩)⟩
  rcases ho.2 with ⟨rfl, h0⟩ | ⟨g, cap, cur, rfl, hb, hg, hc1, hc2, hc3, ht⟩
  · have : C = [] := List.eq_nil_of_length_eq_zero h0
    subst this
    exact ChsIs.nil
  · have hB : Blk w g 46 cur.toList := by unfold Blk; simpa using hg
    exact ⟨_, cap, vs, hl, rfl, hc1, Rd.of_blk (r := cur.toList.drop (C.length * 3)) hB (by rw [List.drop_zero, ← ht, List.take_append_drop]) ⟨hb, .inl ⟨_, hB⟩⟩, hh'⟩
theorem tfit_nil : TFit [] := ⟨by simp, fun b hb => by cases hb⟩
theorem TFit.tok {T : Tab} (h : TFit T) : tOk T := fun b hb => (h.ok b hb).heads.ok
theorem CFit.cok {C : List Chg} (h : CFit C) : cOk C := fun c hc => ⟨(h.ok c hc).old.ok, (h.ok c hc).new.ok⟩
theorem applyT_fit {T : Tab} {C : List Chg} (hT : TFit T) (hC : CFit C) : TFit (applyT T C) := by
  by_cases h : applyE T C = 0
  · obtain ⟨h1, h2⟩ := apply_may h hT.tok hC.cok
    exact tfit_of h1 h2
  · unfold applyT
    rw [if_neg h]
    exact tfit_nil
theorem rsame_self (T : Tab) (v u : Value) (ok ok' : Nat → Prop) (w : World) (h : TabIs w ok v T) (h' : TabIs w ok' u T) (hf : TFit T) :
    Calls Tryd.prog 19 #[v, u] w fun e w' => e = .returned (.bool true) ∧ Below w.heap.size w w' :=
  (rsame_any T T v u ok ok' w h h' hf hf).mono fun e w' ⟨h1, h2⟩ => ⟨by rw [h1, decide_eq_true rfl], h2⟩
set_option maxRecDepth 100000 in
set_option maxHeartbeats 8000000 in
theorem applies_any (T : Tab) (C : List Chg) (v u : Value) (ok ok' : Nat → Prop) (w : World) (h : TabIs w ok v T) (hf : TFit T) (h' : ChsIs w ok' u C) (hc : CFit C) :
    Calls Tryd.prog 5 #[v, u] w fun e w' => e = .returned (.bool true) ∧ Below w.heap.size w w' := by
  have hT := Lib.hid h.ltB
  have hC := Lib.hid h'.ltB
  obtain ⟨A, tc, rfl, htc⟩ := h.form
  obtain ⟨CA, cc, rfl, hcc⟩ := h'.form
  have hRf := Lib.hid (applyT_fit hf hc)
  obtain ⟨R, hR⟩ : ∃ R, R = applyT T C := ⟨_, rfl⟩
  obtain ⟨E, hE⟩ : ∃ E, E = applyE T C := ⟨_, rfl⟩
  rw [← hR] at hRf
  have ho := Lib.hid (lown_any C _ ok' w h' hc)
  have hap := Lib.hid (fun W x (okl okc : Nat → Prop) (h : TabIs W okl (.slice A T.length tc) T) (hx : ChsIs W okc x C) => apply_any T C _ x okl okc W h hf hx hc)
  have hrap := Lib.hid (fun W (okk : Nat → Prop) h h' => rapply_any T C (.slice A T.length tc) (.slice CA C.length cc) okk W h hf h' hc)
  unfold ApplyTo at hap
  unfold RApplyTo at hrap
  rw [← hR, ← hE] at hap hrap
  have hal := Lib.hid alive_any
  clear hR hE h h' htc hcc hf hc
  have hee : (E != E) = false := by simp
  go_enter Tryd.func5, Tryd.ntmps5
  go_wp2_with fail
  refine ho.out.mono ?_
  rintro e w1 ⟨x, rfl, hx1, hb1⟩
  obtain ⟨XA, xc, rfl, _⟩ := hx1.form
  have hxc := Lib.hid hx1.chs
  have hs1 := hb1.size
  replace hb1 := Lib.hid hb1
  clear hx1 ho
  go_wp2_with fail
  refine (hap.out w1 _ _ _ (hT.out.low hb1.out) hxc.out).mono ?_
  rintro e w2 ⟨a, rfl, ha2, hb2'⟩
  have hs2 := hb2'.size
  obtain ⟨FA, fc, rfl, _⟩ := ha2.form
  replace ha2 := Lib.hid ha2
  have hb2 := Lib.hid (hb1.out.trans (hb2'.mono hs1))
  replace hb2' := Lib.hid hb2'
  go_wp2_with fail
  refine (hrap.out w2 (· < w.heap.size) (hT.out.low hb2.out) (hC.out.low hb2.out)).mono ?_
  rintro e w3 ⟨bv, rfl, hbv, hb3'⟩
  have hs3 := hb3'.size
  obtain ⟨GA, gc, rfl, _⟩ := hbv.form
  replace hbv := Lib.hid hbv
  replace hb3' := Lib.hid hb3'
  go_wp2_with fail
  refine (rsame_self R _ _ _ _ w3 (ha2.out.keepB hb3'.out).tab hbv.out hRf.out).mono ?_
  rintro e w4 ⟨rfl, hb4'⟩
  have hb4 := Lib.hid (hb3'.out.trans (hb4'.mono hs3))
  have hs4 := hb4'.size
  replace hb4' := Lib.hid hb4'
  go_wp2_with fail
  refine (spoil_any R _ w2 w1.heap.size w4 ha2.out hRf.out hb4.out).mono ?_
  rintro e w5 ⟨rfl, hsp⟩
  have hs5 := hsp.size
  have hb5 : Below w1.heap.size w1 w5 := (hb2'.out.trans (hb4.out.mono hs2)).trans (hsp.below (by omega) (Nat.le_refl _))
  have hbv5 : TabIs w5 (fun _ => True) (.slice GA R.length gc) R := (hbv.out.stayB hb4'.out).stay (fun b hb hlt => hsp.block b hlt (fun ht => by
    have h1 := ht.lo
    have h2 := ht.hi
    rcases hb with h | ⟨h, _⟩ <;> omega)) (fun _ _ _ => trivial)
  have hx5 := Lib.hid (hxc.out.stayB hb5)
  have hb05 := hb1.out.trans (hb5.mono hs1)
  have hT5 := Lib.hid (hT.out.low hb05)
  replace hbv5 := Lib.hid hbv5
  replace hb05 := Lib.hid hb05
  clear hsp hb5
  go_wp2_with fail
  refine (hap.out w5 _ _ _ hT5.out hx5.out).mono ?_
  rintro e w6 ⟨g, rfl, hg6, hb6'⟩
  obtain ⟨HA, gcc, rfl, _⟩ := hg6.form
  replace hg6 := Lib.hid hg6
  have hs6 := hb6'.size
  replace hb6' := Lib.hid hb6'
  have hbv6 := Lib.hid (hbv5.out.stayB hb6'.out)
  have hb06 := Lib.hid (hb05.out.trans (hb6'.out.mono hb05.out.size))
  go_wp2_with fail
  refine (rsame_self R _ _ _ _ w6 hg6.out.tab hbv6.out hRf.out).mono ?_
  rintro e w7 ⟨rfl, hb7'⟩
  have hb07 := Lib.hid (hb06.out.trans (hb7'.mono hb06.out.size))
  clear hb7'
  go_wp2_with fail
  refine (hal.out w7).mono ?_
  rintro e w8 ⟨rfl, hb8'⟩
  have hb08 := Lib.hid (hb07.out.trans (hb8'.mono hb07.out.size))
  clear hb8'
  go_wp2
  go_ret
  exact ⟨rfl, hb08.out⟩
end Go.Proofs.YtlenmkemjaaaoaaDoor
