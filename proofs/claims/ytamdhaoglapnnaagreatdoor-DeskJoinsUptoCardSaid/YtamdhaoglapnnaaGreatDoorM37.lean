/- A repository's names, what it knows beneath them, a name's version, a name's text. -/
import Derived.Test.YtamdhaoglapnnaaGreatDoorM36
import Derived.Test.YtamdhaoglapnnaaGreatDoorM14
section
namespace Go.Proofs.YtamdhaoglapnnaaGreatDoor
open Go.RowKit

abbrev refsCells (g : Nat) (v : Value) (br : Bool) : List Value := [.pointer (some ⟨g, 0, none⟩), v, .bool br]
theorem rAll_any (r : Nat) (l : Value) (by_ rb g : Nat) (a : Str) (br : Bool) (d b v : Value) (T : Tab) (ok : Nat → Prop) (w : World) (hR : Blk w r 104 (repoCells l by_ rb g a br)) (hB : Blk w rb 147 [d, v, b]) (h : TabIs w ok v T) (hf : TFit T) :
    Calls Tryz.prog 76 #[.pointer (some ⟨r, 0, none⟩)] w (OwnTo w T) := by
  have hm := Lib.hid (rmade_any r l by_ rb g a br w hR)
  have ha := Lib.hid (all_any rb d b v T ok w hB h hf)
  have c2 : w.cell? ⟨r, 2, none⟩ = some (.pointer (some ⟨rb, 0, none⟩)) := hR.cell 2
  clear hR hB h hf
  go_enter Tryz.func76, Tryz.ntmps76
  go_wp2_with fail
  refine hm.out.mono ?_
  rintro e w1 ⟨rfl, rfl⟩
  go_wp2_with fail
  refine ha.out.mono ?_
  rintro e w2 ⟨V, rfl, ho, hb⟩
  obtain ⟨VA, vc, rfl, _⟩ := ho.form
  replace ho := Lib.hid ho
  go_wp2_with fail
  go_returns
  exact ⟨_, rfl, ho.out, hb⟩
set_option maxRecDepth 100000 in
set_option maxHeartbeats 4000000 in
theorem past_of (r : Nat) (l : Value) (by_ rb g : Nat) (a : Str) (br : Bool) (d b v : Value) (T : Tab) (ok : Nat → Prop) (w : World) (hR : Blk w r 104 (repoCells l by_ rb g a br)) (hB : Blk w rb 147 [d, v, b]) (h : TabIs w ok v T) (hf : TFit T) (ht : tOk T) (hl : (T.flatMap (·.heads)).length ≤ 1000)
    (Q : Value → World → Prop) (hben : ∀ (A : Option Addr) (c : Nat) (W : World), Below w.heap.size w W → (W.ownsRow w.heap.size 115 32 (.slice A (T.flatMap (·.heads)).length c) (T.flatMap (·.heads)).length (hCells (T.flatMap (·.heads)))) →
      Calls Tryz.prog 59 #[.pointer (some ⟨r, 0, none⟩), .slice A (T.flatMap (·.heads)).length c] W fun e W' => ∃ o oc n, e = .returned (.tuple #[.slice o n oc, .bool true]) ∧ Q (.slice o n oc) W' ∧ Below W.heap.size W W') :
    Calls Tryz.prog 111 #[.pointer (some ⟨r, 0, none⟩)] w fun e w' => ∃ o n oc, e = .returned (.slice o n oc) ∧ Q (.slice o n oc) w' ∧ Below w.heap.size w w' := by
  have hall := Lib.hid (rAll_any r l by_ rb g a br d b v T ok w.drew hR.drew hB.drew (h.stayB (Below.refl _ _).drew) hf)
  have hheads := Lib.hid (fun v ok w h => rheads_all T v ok w h hf ht hl)
  obtain ⟨hs, hhs⟩ : ∃ hs, hs = T.flatMap (·.heads) := ⟨_, rfl⟩
  rw [← hhs] at hben hheads hl
  replace hben := Lib.hid hben
  clear hR hB h hhs
  go_enter Tryz.func111, Tryz.ntmps111
  go_wp2_with fail
  haveI : Nonempty (Cls fun _ => True) := ⟨⟨w, trivial⟩⟩
  refine region_seg (fun w' => ∃ s : Cls (fun _ => True), w' = s.1) [([0, 1, 2, 3], 4), ([], 5), ([], 6)] [7, 8, 9, 10] 11 [] (by kernel_rfl) (by kernel_rfl) (fun _ d _ _ _ h => by cases d <;> exact h) ⟨⟨_, trivial⟩, rfl⟩ ?_
  simp only [wpSeg, pickOps, List.map_cons, List.map_nil, nthOp_zero, nthOp_succ]
  repeat (first | go_big_quiet_step (fail))
  refine wpQuiet_nil ?_
  intro K hK
  go_simp
  refine hall.out.mono ?_
  rintro e w2 ⟨V, rfl, ho, hb⟩
  obtain ⟨VA, vc, rfl, _⟩ := ho.form
  have hT := hheads.out _ _ w2 ho.tab
  refine hK _ _ ⟨⟨_, trivial⟩, rfl⟩ ?_
  clear hK
  refine wpQuiet_nil ?_
  intro K hK
  go_simp
  refine hT.mono ?_
  rintro e w3 ⟨V, rfl, hrow, hb3⟩
  obtain ⟨HA, hc, rfl, _, _⟩ := own_form hrow
  refine hK _ _ ⟨⟨_, trivial⟩, rfl⟩ ?_
  clear hK
  refine wpQuiet_nil ?_
  intro K hK
  go_simp
  have hb3' := ((Below.refl w.heap.size w).drew.trans hb).trans (hb3.mono (by simpa using hb.size))
  refine (hben.out HA hc w3 hb3' (row_weak (by simpa using hb.size) hrow)).mono ?_
  rintro e w4 ⟨O, oc, n, rfl, hQ, hb4⟩
  refine hK _ _ ⟨⟨_, trivial⟩, rfl⟩ ?_
  clear hK
  repeat (first | go_big_quiet_step (fail))
  refine wpQuiet_nil ?_
  replace hQ := Lib.hid hQ
  go_wp2_with fail
  go_returns
  exact ⟨_, _, _, rfl, hQ.out, hb3'.trans (hb4.mono hb3'.size)⟩
theorem past_nil (r : Nat) (by_ rb g : Nat) (a : Str) (br : Bool) (d b v : Value) (ok : Nat → Prop) (w : World) (hR : Blk w r 104 (repoCells nilS by_ rb g a br)) (hB : Blk w rb 147 [d, v, b]) (h : TabIs w ok v []) :
    Calls Tryz.prog 111 #[.pointer (some ⟨r, 0, none⟩)] w fun e w' => e = .returned nilS ∧ Below w.heap.size w w' := by
  refine (past_of r nilS by_ rb g a br d b v [] ok w hR hB h ⟨by simp, fun b hb => absurd hb (by simp)⟩ (fun b hb => absurd hb (by simp)) (by simp) (fun o _ => o = nilS) (fun A c W hb _ => ?_)).mono ?_
  · refine (kbeneath_nil r A c W ((hb.cell (p := ⟨r, 0, none⟩) hR.lt).trans (hR.cell 0))).mono ?_
    rintro e W' ⟨rfl, hb'⟩
    exact ⟨_, _, _, rfl, rfl, hb'⟩
  · rintro e w' ⟨o, n, oc, rfl, ho, hb⟩
    exact ⟨by rw [ho], hb⟩
/-- A table of one name with one head. -/
abbrev oneT (n ds : Str) : Tab := [⟨n, [ds]⟩]
theorem oneT_may {n ds : Str} (hn : nmOk n = true) : mayE (oneT n ds) = 0 := by
  simp [mayE, mayF, hn, preOk, headsE, rises]
theorem oneT_ok {n ds : Str} (hdl : ds.length = 32) : tOk (oneT n ds) := by
  intro b hb d hd
  obtain rfl := List.mem_singleton.1 hb
  obtain rfl := List.mem_singleton.1 hd
  exact hdl
theorem oneT_fit {n ds : Str} (hn : nmOk n = true) (hdl : ds.length = 32) : TFit (oneT n ds) := tfit_of (oneT_may hn) (oneT_ok hdl)
theorem past_one (n ds : Str) (hdl : ds.length = 32) (hn : nmOk n = true) (OA : Option Addr) (on oc r lb lc : Nat) (rest : List Value) (by_ rb g : Nat) (a : Str) (br : Bool) (d b v : Value) (ok : Nat → Prop) (w : World) (hR : Blk w r 104 (repoCells (.slice (some ⟨lb, 0, none⟩) 1 lc) by_ rb g a br)) (hB : Blk w rb 147 [d, v, b]) (h : TabIs w ok v (oneT n ds))
    (hM : MapV w by_ [(.agg (ds.map B).toArray, .int .i64 0)]) (hL : Blk w lb 155 (comL a (.slice OA on oc) ++ rest)) :
    Calls Tryz.prog 111 #[.pointer (some ⟨r, 0, none⟩)] w fun e w' => ∃ ob ocp rs, e = .returned (.slice (some ⟨ob, 0, none⟩) 1 ocp) ∧ Blk w' ob 155 (comL a (.slice OA on oc) ++ rs) ∧ w.heap.size ≤ ob ∧ Below w.heap.size w w' := by
  refine (past_of r _ by_ rb g a br d b v (oneT n ds) ok w hR hB h (oneT_fit hn hdl) (oneT_ok hdl) (by simp) (fun o w' => ∃ ob ocp rs, o = .slice (some ⟨ob, 0, none⟩) 1 ocp ∧ Blk w' ob 155 (comL a (.slice OA on oc) ++ rs) ∧ w.heap.size ≤ ob) (fun A c W hb hrow => ?_)).mono ?_
  · obtain ⟨ib, ic, ri, hv, hib, hI⟩ := own_one hrow
    injection hv with e1 e2 e3
    subst e1
    refine (kbeneath_one ds a hdl OA on oc r by_ lb lc ib c rest ri W ((hb.cell (p := ⟨r, 0, none⟩) hR.lt).trans (hR.cell 0)) ((hb.cell (p := ⟨r, 1, none⟩) hR.lt).trans (hR.cell 1)) (hM.below hb hM.lt) (hL.below hb hL.lt) (by simpa [hCells] using hI)).mono ?_
    rintro e W' ⟨ob, ocp, rs, rfl, hO, hob, hb'⟩
    exact ⟨_, _, _, rfl, ⟨ob, ocp, rs, rfl, hO, Nat.le_trans hb.size hob⟩, hb'⟩
  · rintro e w' ⟨o, n, oc, rfl, ⟨ob, ocp, rs, ho, hO, hob⟩, hb⟩
    exact ⟨ob, ocp, rs, by rw [ho], hO, hob, hb⟩
set_option maxRecDepth 100000 in
set_option maxHeartbeats 2000000 in
theorem hclone_row (l : List Str) (v : Value) (ok : Nat → Prop) (w : World) (h : HdIs w ok v l) (hf : HFit l) (hne : l ≠ []) :
    Calls Tryz.prog 168 #[v] w fun e w' => ∃ V, e = .returned V ∧ w'.ownsRow w.heap.size 115 32 V l.length (hCells l) ∧ Below w.heap.size w w' := by
  obtain ⟨A, c, rfl, hc, hr⟩ := h
  have hl := hf.len
  have hlen := Lib.hid (hCells_len hf.ok)
  have hone := Lib.hid (hCells_one l)
  have hq := fun w => Lib.run_eql_slice_nil (P := Tryz.prog) w 108 115 A l.length c 0 0 Tryz.underlying108
  obtain ⟨ad, rfl, _⟩ := hr (by rw [hlen.out]; have := List.length_pos_iff.2 hne; omega)
  have hrd : Hid (Rd (w.alloc (.cells #[] 115)) (fun b => b < w.heap.size) (some ad) (hCells l)) := Lib.hid (hr.stay (fun b _ hlt => Below.heap_alloc _ _ _ hlt) (fun b _ hlt => hlt))
  have hown := Lib.hid (empty_row w 115 32)
  have hb0 : Hid (Below w.heap.size w (w.alloc (.cells #[] 115))) := Lib.hid ((Below.refl _ _).alloc (Nat.le_refl _) _)
  clear hr hf
  go_enter Tryz.func168, Tryz.ntmps168
  go_wp2_with (at_builtin; refine wpList_append_rd _ rfl (.tmp 5) (.tmp 6) 108 rfl w.heap.size 115 (.agg zero32.toArray) 32 32 Tryz.underlying108 digInfo (.slice (some ⟨w.heap.size, 0, none⟩) 0 0) 0 [] rfl hown.out (fun b => b < w.heap.size) (some ad) l.length c (hCells l) rfl hlen.out hrd.out hone.out (by unfold maxLen; omega) (by omega) (by simp) ?_; intro v' w2 hrow2 hg2 hv2; replace hrow2 := Lib.hid hrow2; replace hg2 := Lib.hid hg2; obtain ⟨VA, vc, rfl, _, _⟩ := own_form hrow2.out; go_frame)
  go_ret
  refine ⟨_, rfl, by have := hrow2.out; simpa using this, ?_⟩
  exact hb0.out.trans (own_below hown.out hg2.out (by simp))
set_option maxRecDepth 100000 in
set_option maxHeartbeats 4000000 in
theorem get_row (rb : Nat) (d br v : Value) (T : Tab) (n : Str) (ok : Nat → Prop) (w : World) (hB : Blk w rb 147 [d, v, br]) (h : TabIs w ok v T) (hf : TFit T) (hs : sorted T) (hne : getT T n ≠ []) :
    Calls Tryz.prog 108 #[.pointer (some ⟨rb, 0, none⟩), strV n] w fun e w' => ∃ u, e = .returned (.tuple #[u, .bool true]) ∧ w'.ownsRow w.heap.size 115 32 u (getT T n).length (hCells (getT T n)) ∧ Below w.heap.size w w' := by
  obtain ⟨u, hu, hst⟩ := stands_any T v n ok w h hf.len hs
  have hst := Lib.hid (hst w (Below.refl _ _))
  have hcl := Lib.hid (fun W (hb : Below w.heap.size w W) => hclone_row (getT T n) u ok W (hu.stayB hb) (getT_fit hf n) hne)
  obtain ⟨A, c, rfl, hc⟩ := h.form
  obtain ⟨UA, uc, rfl, huc, _⟩ := id hu
  have h1 := hB.cell 1
  obtain ⟨l, hl⟩ : ∃ l, l = getT T n := ⟨_, rfl⟩
  rw [← hl] at hst hcl hne ⊢
  have hdt : decide (0 < l.length) = true := decide_eq_true (List.length_pos_iff.2 hne)
  unfold strV at hst ⊢
  clear hu h hl
  go_enter Tryz.func108, Tryz.ntmps108
  go_wp2_with (first
    | (go_at_call 173; (with_reducible refine hst.out.mono ?_); rintro e w2 ⟨rfl, hb2⟩)
    | (go_at_call 168; (with_reducible refine (hcl.out _ hb2).mono ?_); rintro e w3 ⟨x, rfl, hx, hb3⟩; obtain ⟨XA, xc, rfl, _, _⟩ := own_form hx; replace hx := Lib.hid hx))
  refine bodyPost_ret (results_tmp2 rfl _ _ _) rfl ?_
  refine ⟨_, ?_, row_weak hb2.size hx.out, hb2.trans (hb3.mono hb2.size)⟩
  rfl
set_option maxRecDepth 100000 in
set_option maxHeartbeats 4000000 in
theorem version_none (r : Nat) (l : Value) (by_ rb g : Nat) (a n : Str) (br : Bool) (d b v : Value) (T : Tab) (ok : Nat → Prop) (w : World) (hR : Blk w r 104 (repoCells l by_ rb g a br)) (hB : Blk w rb 147 [d, v, b]) (h : TabIs w ok v T) (hf : TFit T) (hs : sorted T) (hg : getT T n = []) :
    Calls Tryz.prog 123 #[.pointer (some ⟨r, 0, none⟩), strV n] w fun e w' => e = .returned (.tuple #[nilS, .int .i64 5]) ∧ Below w.heap.size w w' := by
  have hm := Lib.hid (rmade_any r l by_ rb g a br w hR)
  have hget := get_any rb d b v T n ok w hB h hf hs
  rw [hg] at hget
  unfold strV at hget ⊢
  replace hget := Lib.hid hget
  have c2 : w.cell? ⟨r, 2, none⟩ = some (.pointer (some ⟨rb, 0, none⟩)) := hR.cell 2
  clear hR hB h hf
  go_enter Tryz.func123, Tryz.ntmps123
  go_wp2_with fail
  refine hm.out.mono ?_
  rintro e w1 ⟨rfl, rfl⟩
  go_wp2_with fail
  refine hget.out.mono ?_
  rintro e w2 ⟨V, rfl, ho, hb⟩
  obtain ⟨VA, vc, rfl, _⟩ := ho
  go_wp2_with fail
  go_returns
  exact ⟨rfl, hb⟩
set_option maxRecDepth 100000 in
set_option maxHeartbeats 4000000 in
theorem version_row (r : Nat) (l : Value) (by_ rb g : Nat) (a n : Str) (br : Bool) (d b v : Value) (T : Tab) (ok : Nat → Prop) (w : World) (hR : Blk w r 104 (repoCells l by_ rb g a br)) (hB : Blk w rb 147 [d, v, b]) (h : TabIs w ok v T) (hf : TFit T) (hs : sorted T) (hg : getT T n ≠ []) :
    Calls Tryz.prog 123 #[.pointer (some ⟨r, 0, none⟩), strV n] w fun e w' => ∃ u, e = .returned (.tuple #[u, .int .i64 0]) ∧ w'.ownsRow w.heap.size 115 32 u (getT T n).length (hCells (getT T n)) ∧ Below w.heap.size w w' := by
  have hm := Lib.hid (rmade_any r l by_ rb g a br w hR)
  have hget := get_row rb d b v T n ok w hB h hf hs hg
  obtain ⟨hs', hhs⟩ : ∃ hs', hs' = getT T n := ⟨_, rfl⟩
  rw [← hhs] at hget ⊢
  clear hhs
  unfold strV at hget ⊢
  replace hget := Lib.hid hget
  have c2 : w.cell? ⟨r, 2, none⟩ = some (.pointer (some ⟨rb, 0, none⟩)) := hR.cell 2
  clear hR hB h hf
  go_enter Tryz.func123, Tryz.ntmps123
  go_wp2_with fail
  refine hm.out.mono ?_
  rintro e w1 ⟨rfl, rfl⟩
  go_wp2_with fail
  refine hget.out.mono ?_
  rintro e w2 ⟨V, rfl, ho, hb⟩
  obtain ⟨VA, vc, rfl, _⟩ := own_form ho
  replace ho := Lib.hid ho
  go_wp2_with fail
  go_returns
  exact ⟨.slice VA hs'.length vc, rfl, ho.out, hb⟩
set_option maxRecDepth 100000 in
set_option maxHeartbeats 4000000 in
theorem rtext_none (r : Nat) (l : Value) (by_ rb g : Nat) (a n : Str) (br : Bool) (d b v : Value) (T : Tab) (ok : Nat → Prop) (w : World) (hR : Blk w r 104 (repoCells l by_ rb g a br)) (hB : Blk w rb 147 [d, v, b]) (h : TabIs w ok v T) (hf : TFit T) (hs : sorted T) (hg : getT T n = []) :
    Calls Tryz.prog 70 #[.pointer (some ⟨r, 0, none⟩), strV n] w fun e w' => e = .returned (.tuple #[.string ⟨#[]⟩, .int .i64 5]) ∧ Below w.heap.size w w' := by
  have hv := version_none r l by_ rb g a n br d b v T ok w hR hB h hf hs hg
  unfold strV at hv ⊢
  replace hv := Lib.hid hv
  clear hR hB h hf
  go_enter Tryz.func70, Tryz.ntmps70
  go_wp2_with fail
  refine hv.out.mono ?_
  rintro e w1 ⟨rfl, hb⟩
  go_wp2_with fail
  go_returns
  exact ⟨rfl, hb⟩
set_option maxRecDepth 100000 in
set_option maxHeartbeats 4000000 in
theorem rtext_one (n a t : Str) (hn : nmOk n = true) (ha : nmOk a = true) (ht : t.length ≤ 1000) (OA : Option Addr) (on oc r lb lc : Nat) (rest : List Value) (by_ rb g : Nat) (br : Bool) (d b v : Value) (ok : Nat → Prop) (w : World) (hR : Blk w r 104 (repoCells (.slice (some ⟨lb, 0, none⟩) 1 lc) by_ rb g a br)) (hB : Blk w rb 147 [d, v, b]) (h : TabIs w ok v (oneT n (idT a t)))
    (hM : MapV w by_ [(.agg ((idT a t).map B).toArray, .int .i64 0)]) (hL : Blk w lb 155 (comL a (.slice OA on oc) ++ rest)) (hO : OpsIs w (· < w.heap.size) (.slice OA on oc) (chain t)) (hK : KeysIn w) :
    Calls Tryz.prog 70 #[.pointer (some ⟨r, 0, none⟩), strV n] w fun e w' => e = .returned (.tuple #[strV t, .int .i64 0]) ∧ Below w.heap.size w w' := by
  have hdl := idT_len a t
  have hg : getT (oneT n (idT a t)) n = [idT a t] := by simp [getT]
  have hv := version_row r _ by_ rb g a n br d b v _ ok w hR hB h (oneT_fit hn hdl) (by simp [sorted]) (by rw [hg]; simp)
  rw [hg] at hv
  have hp := Lib.hid (fun W (hb : Below w.heap.size w W) => past_one n (idT a t) hdl hn OA on oc r lb lc rest by_ rb g a br d b v _ W (hR.below hb hR.lt) (hB.below hb hB.lt) (h.stayB hb) (hM.below hb hM.lt) (hL.below hb hL.lt))
  have hx := Lib.hid (fun lb lc ib ic rest ri W (hb : Below w.heap.size w W) hK hL hI => htext_one a t (.slice OA on oc) lb lc ib ic rest ri W (hO.stay (fun b _ hlt => hb.block b hlt) (fun b h _ => Nat.lt_of_lt_of_le h hb.size)) ha ht hK hL hI)
  clear hR hB h hM hL hg
  unfold strV at hv hx ⊢
  replace hv := Lib.hid hv
  go_enter Tryz.func70, Tryz.ntmps70
  go_wp2_with fail
  refine hv.out.mono ?_
  rintro e w1 ⟨V, rfl, hrow, hb1⟩
  obtain ⟨ib, ic, ri, rfl, hib, hI⟩ := own_one hrow
  have hI' := Lib.hid hI
  clear hI hrow
  go_wp2_with fail
  refine (hp.out w1 hb1).mono ?_
  rintro e w2 ⟨ob, ocp, rs, rfl, hO2, hob, hb2⟩
  have hI2 := Lib.hid (hI'.out.below hb2 hI'.out.lt)
  have hb2' := hb1.trans (hb2.mono hb1.size)
  have hK2 : KeysIn w2 := fun i hi => (hb2'.cell (World.block_lt_of_cell? _ _ (hK i hi))).trans (hK i hi)
  go_wp2_with fail
  refine (hx.out _ _ _ _ _ _ _ hb2' hK2 hO2 (by simpa [hCells] using hI2.out)).mono ?_
  rintro e w3 ⟨rfl, hb3⟩
  go_wp2_with fail
  go_returns
  exact ⟨rfl, hb2'.trans (hb3.mono hb2'.size)⟩
end Go.Proofs.YtamdhaoglapnnaaGreatDoor
end
section
/- A repository on a disk without files: opened. -/
namespace Go.Proofs.YtamdhaoglapnnaaGreatDoor
open Go.RowKit

set_option maxRecDepth 100000 in
set_option maxHeartbeats 1000000 in
theorem isortS_nil (A : Option Addr) (c : Nat) (f : Value) (w : World) : Calls Tryz.prog 225 #[.slice A 0 c, .int .i64 0, .int .i64 0, f] w fun e w' => e = .returned (.tuple #[]) ∧ Below w.heap.size w w' := by
  go_enter Tryz.func225, Tryz.ntmps225
  go_wp2
  go_rounds 1
  refine bodyPost_end (v := .tuple #[]) (results_none (by rfl) _ _ _) rfl ⟨rfl, Below.refl _ _⟩
set_option maxRecDepth 100000 in
set_option maxHeartbeats 1000000 in
theorem psortS_nil (A : Option Addr) (c : Nat) (f n : Value) (w : World) : Calls Tryz.prog 161 #[.slice A 0 c, .int .i64 0, .int .i64 0, n, f] w fun e w' => e = .returned (.tuple #[]) ∧ Below w.heap.size w w' := by
  have hc := Lib.hid (isortS_nil A c f w)
  go_enter Tryz.func161, Tryz.ntmps161
  go_wp2_with fail
  refine wp_loop_rounds 1 ?_
  rw [rounds_succ]
  go_wp2_with fail
  refine hc.out.mono ?_
  rintro e W ⟨rfl, hb⟩
  go_wp2_with fail
  exact bodyPost_ret (v := .tuple #[]) (results_none (by rfl) _ _ _) rfl ⟨rfl, hb⟩
set_option maxRecDepth 100000 in
set_option maxHeartbeats 1000000 in
theorem sortS_nil (A : Option Addr) (c : Nat) (f : Value) (w : World) : Calls Tryz.prog 98 #[.slice A 0 c, f] w fun e w' => e = .returned (.tuple #[]) ∧ Below w.heap.size w w' := by
  have hc := Lib.hid (fun n => psortS_nil A c f n w)
  have hl := Lib.hid (Tryz.bits_Len 0 w (by omega) (by omega))
  go_enter Tryz.func98, Tryz.ntmps98
  go_wp2_with fail
  refine hl.out.mono ?_
  rintro e W ⟨rfl, rfl⟩
  go_wp2_with fail
  refine (hc.out _).mono ?_
  rintro e W1 ⟨rfl, hb⟩
  go_wp2_with fail
  exact bodyPost_end (v := .tuple #[]) (results_none (by rfl) _ _ _) rfl ⟨rfl, hb⟩
set_option maxRecDepth 100000 in
set_option maxHeartbeats 1000000 in
theorem indexS_nil (A : Option Addr) (c : Nat) (f : Value) (w : World) : Calls Tryz.prog 157 #[.slice A 0 c, f] w fun e w' => e = .returned (.int .i64 (-1)) ∧ Below w.heap.size w w' := by
  go_enter Tryz.func157, Tryz.ntmps157
  go_wp2_with fail
  refine wp_loop_rounds 1 ?_
  rw [rounds_succ]
  go_wp2_with fail
  go_returns
  exact ⟨rfl, Below.refl _ _⟩
set_option maxRecDepth 100000 in
set_option maxHeartbeats 1000000 in
theorem deleteS_nil (A : Option Addr) (c : Nat) (f : Value) (w : World) : Calls Tryz.prog 94 #[.slice A 0 c, f] w fun e w' => e = .returned (.slice A 0 c) ∧ Below w.heap.size w w' := by
  have hi := Lib.hid (indexS_nil A c f w)
  go_enter Tryz.func94, Tryz.ntmps94
  go_wp2_with fail
  refine hi.out.mono ?_
  rintro e W ⟨rfl, hb⟩
  go_wp2_with fail
  go_returns
  exact ⟨rfl, hb⟩
set_option maxRecDepth 100000 in
set_option maxHeartbeats 4000000 in
theorem objects_none (g bn bs : Nat) (v : Value) (S : DS) (w : World) (h : DiskAt w g bn bs v S) (ho : S.off = false) (hl : fLen S.now = 0) :
    Calls Tryz.prog 57 #[.pointer (some ⟨g, 0, none⟩)] w fun e w' => ∃ b, e = .returned (.tuple #[.map (some b), .int .i64 0]) ∧ MapV w' b [] ∧ w.heap.size ≤ b ∧ Below w.heap.size w w' := by
  have hmm := @run_makeMap Tryz.prog
  have hn := Lib.hid (fun W (hb : Below w.heap.size w W) => names_any g bn bs v S W (h.below hb) ho (by omega))
  have hnl : (fNames S.now).length = 0 := by rw [names_len, hl]
  clear h
  go_enter Tryz.func57, Tryz.ntmps57
  go_wp2_with fail
  generalize hW1 : World.alloc (w.alloc _) (Obj.cells _ 96) = w1
  have hb1 : Below w.heap.size w w1 := by rw [← hW1]; exact ((Below.refl _ _).alloc (Nat.le_refl _) _).alloc (by simp) _
  have hB1 : Blk w1 (w.heap.size + 1) 96 [.map (some w.heap.size)] := by rw [← hW1]; exact Blk.new_at (cs := [.map (some w.heap.size)]) (by simp)
  have hM1 : MapV w1 w.heap.size [] := by rw [← hW1]; exact (MapV.new_at rfl).alloc _
  clear hW1
  refine (hn.out w1 hb1).mono ?_
  rintro e W ⟨V, rfl, hrow, hb⟩
  rw [hnl] at hrow
  obtain ⟨FA, fc, rfl, _, _⟩ := own_form hrow
  have hb2 := hb1.trans (hb.mono hb1.size)
  have hB2 := hB1.below hb hB1.lt
  have hM2 := hM1.below hb hM1.lt
  clear hrow hb hb1 hB1 hM1
  go_wp2_with fail
  refine (deleteS_nil _ _ _ _).mono ?_
  rintro e W3 ⟨rfl, hb⟩
  have hb3 := hb2.trans (hb.mono hb2.size)
  have hB3 := hB2.below hb hB2.lt
  have hM3 := hM2.below hb hM2.lt
  clear hb hb2 hB2 hM2
  go_wp2_with fail
  refine (sortS_nil _ _ _ _).mono ?_
  rintro e W4 ⟨rfl, hb⟩
  have hb4 := hb3.trans (hb.mono hb3.size)
  have hB4 := hB3.below hb hB3.lt
  have hM4 := hM3.below hb hM3.lt
  clear hb hb3 hB3 hM3
  have c4 : W4.cell? ⟨w.heap.size + 1, 0, none⟩ = some (.map (some w.heap.size)) := hB4.cell 0
  replace hb4 := Lib.hid hb4
  replace hM4 := Lib.hid hM4
  clear hB4
  go_wp2_with fail
  refine wp_loop_rounds 1 ?_
  rw [rounds_succ]
  go_wp2_with fail
  go_returns
  exact ⟨_, rfl, hM4.out, Nat.le_refl _, hb4.out⟩
set_option maxRecDepth 100000 in
set_option maxHeartbeats 4000000 in
theorem fill_none (p : Value) (b : Nat) (w : World) (h : MapV w b []) :
    Calls Tryz.prog 58 #[p, .map (some b)] w fun e w' => e = .returned (.tuple #[]) ∧ Below w.heap.size w w' := by
  obtain ⟨ck, hrg, hnx⟩ := run_range0 Tryz.underlying96 h
  clear h
  go_enter Tryz.func58, Tryz.ntmps58
  go_wp2_with fail
  refine wp_loop_rounds 2 ?_
  rw [rounds_succ]
  go_wp2_with fail
  refine wp_loop_rounds 1 ?_
  rw [rounds_succ]
  go_wp2_with fail
  rw [rounds_succ]
  go_wp2_with fail
  exact bodyPost_end (v := .tuple #[]) (results_none (by rfl) _ _ _) rfl ⟨rfl, (Below.refl _ _).alloc (Nat.le_refl _) _⟩
theorem has_none {S : DS} (h : Live S none) (s : Str) : fHas S.now s = false := by
  have hl : fLen S.now = 0 := h.holds.len
  cases hb : fHas S.now s with
  | false => rfl
  | true =>
    have h1 := fLen_del (k := s) h.holds.map
    rw [hb] at h1
    simp at h1
    omega
def packN : Str := [112, 97, 99, 107, 46, 110, 101, 119]
theorem remove_pack {S : DS} (h : Live S none) : (Call.remove packN).errno S = 5 ∧ (Call.remove packN).turn S = S := by
  have e : (Call.remove packN).err S = 5 := by
    show (if nameB packN = true then (if fHas S.now packN = true then (0 : Int) else 5) else 11) = 5
    rw [if_pos (by decide), has_none h]
    rfl
  refine ⟨(live_err _ h.off h.fuse).trans e, ?_⟩
  rw [live_turn _ h.off h.fuse, e]
  rfl
set_option maxRecDepth 100000 in
set_option maxHeartbeats 8000000 in
theorem ropen_none {w0 : World} {base g : Nat} {S : DS} {W : World} (h : Ses w0 base g S W) (hS : Live S none) (a : Str) (ha : nmOk a = true) :
    Calls Tryz.prog 34 #[.pointer (some ⟨g, 0, none⟩), strV a] W fun e W' => ∃ r by_ rb v, e = .returned (.tuple #[.pointer (some ⟨r, 0, none⟩), .int .i64 0]) ∧ Blk W' r 104 (repoCells nilS by_ rb g a false) ∧ MapV W' by_ [] ∧ Ref w0 base rb g v S [] W' ∧ base ≤ r ∧ base ≤ by_ := by
  have hmm := @run_makeMap Tryz.prog
  have hnm := fun W => nm_any a W (by have := nmOk_len' ha; omega)
  unfold strV at hnm ⊢
  simp only [ha] at hnm
  replace hnm := Lib.hid hnm
  have hgo : ∃ bn bs pv, DiskAt W g bn bs pv S := by
    obtain ⟨L, ⟨bn, bs, pv, hD, _⟩, _⟩ := h.disk
    exact ⟨bn, bs, pv, hD⟩
  obtain ⟨bn, bs, pv, hD⟩ := hgo
  have hp := hS.pend
  have hcp := Lib.hid (dcopy_any g bn bs pv S W hD (by rw [hp]; simp))
  clear hD
  go_enter Tryz.func34, Tryz.ntmps34
  go_wp2_with fail
  refine hcp.out.mono ?_
  rintro e W1 ⟨g1, L1, rfl, _, _, hb1⟩
  have h1 := h.below hb1
  clear hb1 hcp
  go_wp2_with fail
  refine (hnm.out W1).mono ?_
  rintro e W2 ⟨rfl, rfl⟩
  go_wp2_with fail
  refine (open_live h1 hS (.inl ⟨rfl, rfl⟩)).mono ?_
  rintro e W2 ⟨rb, v, rfl, h2, _⟩
  replace h2 := Lib.hid h2
  clear h1 h
  go_wp2_with fail
  obtain ⟨L, ⟨bn, bs, pv, hD, rfl⟩, hL⟩ := h2.out.disk
  have hrm := remove_any g bn bs pv S packN W2 hD (hS.inv.asked (by omega)) (by decide)
  rw [(remove_pack hS).1, (remove_pack hS).2] at hrm
  unfold packN strV at hrm
  refine hrm.mono ?_
  rintro e W3 ⟨rfl, ht⟩
  have h3 := h2.out.turned hD hL ht
  clear hrm ht hD hL h2
  replace h3 := Lib.hid h3
  go_wp2_with fail
  obtain ⟨L, ⟨bn, bs, pv, hD, rfl⟩, hL⟩ := h3.out.disk
  refine (objects_none g bn bs pv S W3 hD hS.off hS.holds.len).mono ?_
  rintro e W4 ⟨ob, rfl, hM4, hob, hb4⟩
  have h4 := h3.out.below hb4
  clear hb4 h3 hD hL
  replace h4 := Lib.hid h4
  replace hM4 := Lib.hid hM4
  go_wp2_with fail
  generalize hW5 : World.alloc (W4.alloc _) (Obj.cells _ 104) = w5
  have hb5 : Below W4.heap.size W4 w5 := by rw [← hW5]; exact ((Below.refl _ _).alloc (Nat.le_refl _) _).alloc (by simp) _
  have hR5 : Blk w5 (W4.heap.size + 1) 104 (repoCells nilS W4.heap.size rb g a false) := by rw [← hW5]; exact Blk.new_at (cs := repoCells nilS W4.heap.size rb g a false) (by simp)
  have hM5 : MapV w5 W4.heap.size [] := by rw [← hW5]; exact (MapV.new_at rfl).alloc _
  have hO5 := hM4.out.below hb5 hM4.out.lt
  have h5 := h4.out.below hb5
  have hs4 := h4.out.size
  clear hW5 hb5 h4 hM4
  refine (fill_none _ ob w5 hO5).mono ?_
  rintro e w6 ⟨rfl, hb6⟩
  have hR6 := hR5.below hb6 hR5.lt
  have hM6 := hM5.below hb6 hM5.lt
  have h6 := h5.below hb6
  clear hb6 hR5 hM5 h5 hO5
  replace hR6 := Lib.hid hR6
  replace hM6 := Lib.hid hM6
  replace h6 := Lib.hid h6
  go_wp2_with fail
  haveI : Nonempty (Cls fun _ => True) := ⟨⟨w6, trivial⟩⟩
  refine region_seg (fun w' => ∃ s : Cls (fun _ => True), w' = s.1) [([0, 1, 2, 3], 4), ([], 5), ([], 6)] [7, 8, 9, 10] 11 [] (by kernel_rfl) (by kernel_rfl) (fun _ d _ _ _ h => by cases d <;> exact h) ⟨⟨_, trivial⟩, rfl⟩ ?_
  simp only [wpSeg, pickOps, List.map_cons, List.map_nil, nthOp_zero, nthOp_succ]
  repeat (first | go_big_quiet_step (fail))
  refine wpQuiet_nil ?_
  intro K hK
  go_simp
  have hbd := (Below.refl w6.heap.size w6).drew
  have hall := all_any rb _ _ v [] _ w6.drew h6.out.ref.drew (h6.out.own.tab.stayB hbd) ⟨by simp, fun b hb => absurd hb (by simp)⟩
  refine hall.mono ?_
  rintro e w7 ⟨V, rfl, ho, hb7⟩
  obtain ⟨VA, vc, rfl, _⟩ := ho.form
  have hb7' := hbd.trans hb7
  refine hK _ _ ⟨⟨_, trivial⟩, rfl⟩ ?_
  clear hK hall
  refine wpQuiet_nil ?_
  intro K hK
  go_simp
  refine (rheads_all [] _ _ w7 ho.tab ⟨by simp, fun b hb => absurd hb (by simp)⟩ (fun b hb => absurd hb (by simp)) (by simp)).mono ?_
  rintro e w8 ⟨V, rfl, hrow, hb8⟩
  obtain ⟨HA, hc, rfl, _, _⟩ := own_form hrow
  have hb8' := hb7'.trans (hb8.mono hb7'.size)
  clear hrow ho hb7 hb8 hb7'
  refine hK _ _ ⟨⟨_, trivial⟩, rfl⟩ ?_
  clear hK
  refine wpQuiet_nil ?_
  intro K hK
  go_simp
  have hR8 := hR6.out.below hb8' hR6.out.lt
  refine (kbeneath_nil _ _ _ _ (hR8.cell 0)).mono ?_
  rintro e w9 ⟨rfl, hb9⟩
  have hb9' := hb8'.trans (hb9.mono hb8'.size)
  refine hK _ _ ⟨⟨_, trivial⟩, rfl⟩ ?_
  clear hK hb9 hb8' hR8
  repeat (first | go_big_quiet_step (fail))
  refine wpQuiet_nil ?_
  replace hb9' := Lib.hid hb9'
  go_wp2_with fail
  go_returns
  exact ⟨_, _, _, _, rfl, hR6.out.below hb9'.out hR6.out.lt, hM6.out.below hb9'.out hM6.out.lt, h6.out.below hb9'.out, by omega, by omega⟩
end Go.Proofs.YtamdhaoglapnnaaGreatDoor
end
