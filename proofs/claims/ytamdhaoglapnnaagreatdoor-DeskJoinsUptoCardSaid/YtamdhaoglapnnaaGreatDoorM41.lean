/- A first commit by a call. -/
import Derived.Test.YtamdhaoglapnnaaGreatDoorM40
import Derived.Test.YtamdhaoglapnnaaGreatDoorM07
section
namespace Go.Proofs.YtamdhaoglapnnaaGreatDoor
open Go.RowKit

theorem bcell {W w1 : World} (hb : Below W.heap.size W w1) : (∀ b o, b < W.heap.size → w1.cell? ⟨b, o, none⟩ = W.cell? ⟨b, o, none⟩) ∧ (∀ b o, b < W.heap.size → w1.frozen? ⟨b, o, none⟩ = W.frozen? ⟨b, o, none⟩) :=
  ⟨fun b o h => hb.cell (p := ⟨b, o, none⟩) h, fun b o h => hb.frozen (p := ⟨b, o, none⟩) h⟩
theorem box_store {w2 wa : World} {p : Nat} {l : List POp} {V : Value} {cs : List Value} (hb : Below w2.heap.size w2 wa) (hp : w2.heap.size ≤ p) (hB : Blk wa p 155 cs) (hO : OpsIs wa (OpB wa) V l) (c : List Value) :
    Blk (wa.setRow p c.toArray) p 155 c ∧ OpsIs (wa.setRow p c.toArray) (OpB (wa.setRow p c.toArray)) V l ∧ Below w2.heap.size w2 (wa.setRow p c.toArray) :=
  ⟨hB.setRow_same _, hO.touchB (Touch.setRow (L := [p]) (by simp) _) (fun i hi cs' hB' => by
    obtain rfl : i = p := by simpa using hi
    exact absurd (hB.unique hB') (by decide)), below_setRow hb hp _⟩
theorem stands_empty (v : Value) (n : Str) (ok : Nat → Prop) (w : World) (h : TabIs w ok v []) : Calls Tryz.prog 173 #[v, strV n] w fun e w' => e = .returned nilS ∧ Below w.heap.size w w' := by
  have ha := at_any [] v n ok w h (by simp) (by simp [sorted])
  have hh : hitT [] n = false := rfl
  rw [hh] at ha
  obtain ⟨A, c, rfl, _⟩ := h.form
  unfold strV at ha ⊢
  generalize posT [] n = p at ha
  clear h hh
  go_enter Tryz.func173, Tryz.ntmps173
  go_wp2_with fail
  refine ha.mono ?_
  rintro e w2 ⟨rfl, hb2⟩
  go_wp2_with fail
  go_returns
  exact ⟨rfl, hb2⟩
theorem get_empty (rb : Nat) (d br v : Value) (n : Str) (ok : Nat → Prop) (w : World) (hB : Blk w rb 147 [d, v, br]) (h : TabIs w ok v []) :
    Calls Tryz.prog 108 #[.pointer (some ⟨rb, 0, none⟩), strV n] w fun e w' => e = .returned (.tuple #[nilS, .bool false]) ∧ Below w.heap.size w w' := by
  have hst := stands_empty v n ok w h
  obtain ⟨A, c, rfl, _⟩ := h.form
  have h1 := hB.cell 1
  unfold strV at hst ⊢
  clear h hB
  go_enter Tryz.func108, Tryz.ntmps108
  go_wp2_with fail
  refine hst.mono ?_
  rintro e w2 ⟨rfl, hb2⟩
  go_wp2_with fail
  refine (hclone_nil w2).mono ?_
  rintro e w3 ⟨rfl, rfl⟩
  go_wp2_with fail
  refine bodyPost_ret (results_tmp2 rfl _ _ _) rfl ?_
  exact ⟨rfl, hb2⟩
set_option maxRecDepth 100000 in
set_option maxHeartbeats 16000000 in
theorem commit1_first {w0 : World} {base g rb : Nat} {S : DS} {v : Value} {w : World} (a t n : Str) (hn : nmOk n = true) (ha : nmOk a = true) (ht : t.length ≤ 1000) (h0 : t ≠ []) (h : Ref w0 base rb g v S [] w) (hS : Live S none) (hroom : 1000000 ≤ S.room) (r by_ : Nat) (hR : Blk w r 104 (repoCells nilS by_ rb g a false)) (hr : base ≤ r)
    (hky : ∀ W, Below base w0 W → KeysIn W) (nb rc ob tb ic : Nat) (hnb : Blk w nb 9 [strV n]) (hrc : Blk w rc 33 [.pointer (some ⟨r, 0, none⟩)]) (hob : Blk w ob 9 [strV []]) (htb : Blk w tb 9 [strV t]) (hic : Blk w ic 115 zero32) (hicb : base ≤ ic) :
    Calls Tryz.prog 107 #[.pointer (some ⟨nb, 0, none⟩), .pointer (some ⟨rc, 0, none⟩), .pointer (some ⟨ob, 0, none⟩), .pointer (some ⟨tb, 0, none⟩), .pointer (some ⟨ic, 0, none⟩)] w fun e w' => e = .returned (.int .i64 0) ∧ KeepsC ic w w' ∧ Blk w' ic 115 ((idT a t).map B) ∧ OneSt w0 base w.heap.size g rb r a t n w' := by
  have hnl := nmOk_len' hn
  have hnm := nm_any n w (by omega)
  have n0 := hnb.cell 0
  have r0 := hrc.cell 0
  have rr2 := hR.cell 2
  unfold strV at hnm n0
  rw [hn] at hnm
  go_enter Tryz.func107, Tryz.ntmps107
  go_wp2_with fail
  refine hnm.mono ?_
  rintro e w' ⟨rfl, rfl⟩
  clear n0 r0 rr2 hnm
  go_wp2_with fail
  obtain ⟨PS, hPS⟩ : ∃ PS : World → Prop, ∀ x, PS x ↔ Below w.heap.size w x := ⟨_, fun _ => Iff.rfl⟩
  have s0 : ∀ s : Cls PS, s.1.cell? ⟨nb, 0, none⟩ = some (.string ⟨n.toArray⟩) := fun s => (hnb.below ((hPS _).1 s.2) hnb.lt).cell 0
  have s1 : ∀ s : Cls PS, s.1.cell? ⟨rc, 0, none⟩ = some (.pointer (some ⟨r, 0, none⟩)) := fun s => (hrc.below ((hPS _).1 s.2) hrc.lt).cell 0
  have s2 : ∀ s : Cls PS, s.1.cell? ⟨r, 2, none⟩ = some (.pointer (some ⟨rb, 0, none⟩)) := fun s => (hR.below ((hPS _).1 s.2) hR.lt).cell 2
  have s4 : PS w.drew := (hPS _).2 (Below.refl _ _).drew
  haveI : Nonempty (Cls PS) := ⟨⟨_, s4⟩⟩
  replace hPS := Lib.hid hPS
  refine region_seg (fun w' => ∃ s : Cls PS, w' = s.1) [([0, 1, 2, 3, 4], 5)] [6, 7, 8, 9] 10 [] (by kernel_rfl) (by kernel_rfl) (fun _ d _ _ _ h => by cases d <;> exact h) ⟨⟨_, s4⟩, rfl⟩ ?_
  simp only [wpSeg, pickOps, List.map_cons, List.map_nil, nthOp_zero, nthOp_succ]
  repeat (first | go_big_quiet_step (fail))
  refine wpQuiet_nil ?_
  intro K hK
  go_simp
  have hbd := (Below.refl w.heap.size w).drew
  have hget := get_empty rb _ _ v n _ w.drew h.ref.drew (h.own.tab.stayB hbd)
  unfold strV at hget
  refine hget.mono ?_
  rintro e w2 ⟨rfl, hb2⟩
  have hb2' := hbd.trans hb2
  refine hK _ _ ⟨⟨_, (hPS.out _).2 hb2'⟩, rfl⟩ ?_
  clear hK hget s0 s1 s2 s4 hb2 hbd
  repeat (first | go_big_quiet_step (fail))
  refine wpQuiet_nil ?_
  have hnb2 := hnb.below hb2' hnb.lt
  have hrc2 := hrc.below hb2' hrc.lt
  have hob2 := hob.below hb2' hob.lt
  have htb2 := htb.below hb2' htb.lt
  have hic2 := hic.below hb2' hic.lt
  have hR2 := hR.below hb2' hR.lt
  have h2 := h.below hb2'
  have hbs := h.size
  have hicl := hic.lt
  clear hnb hrc hob htb hic hR h
  replace hb2' := Lib.hid hb2'
  replace hnb2 := Lib.hid hnb2
  replace hrc2 := Lib.hid hrc2
  replace hob2 := Lib.hid hob2
  replace htb2 := Lib.hid htb2
  replace hic2 := Lib.hid hic2
  replace hR2 := Lib.hid hR2
  replace h2 := Lib.hid h2
  replace hky := Lib.hid hky
  replace hS := Lib.hid hS
  go_wp2_with fail
  have hpast : Hid (∀ W, Below w2.heap.size w2 W → Calls Tryz.prog 111 #[.pointer (some ⟨r, 0, none⟩)] W fun e W' => e = .returned nilS ∧ Below W.heap.size W W' ∧ Below w2.heap.size w2 W') := Lib.hid (fun W hb => (past_nil r by_ rb g a false _ _ v _ W (hR2.out.below hb hR2.out.lt) (h2.out.below hb).ref (h2.out.below hb).own.tab).mono (by
    rintro e w' ⟨he, hb'⟩
    exact ⟨he, hb', hb.trans (hb'.mono hb.size)⟩))
  have hcom : Hid (∀ W, Below w2.heap.size w2 W → Calls Tryz.prog 110 #[nilS, nilS, .string ⟨a.toArray⟩, .string ⟨#[]⟩, .string ⟨t.toArray⟩] W fun e W' => ∃ OA oc, e = .returned (.tuple #[.agg #[nilS, .string ⟨a.toArray⟩, .string ⟨#[]⟩, .slice OA t.length oc], .int .i64 0]) ∧ OpsIs W' (OpB W') (.slice OA t.length oc) (chain t) ∧ Below W.heap.size W W' ∧ Below w2.heap.size w2 W') := Lib.hid (fun W hb => (ecommit_first a t ha ht h0 W).mono (by
    rintro e w' ⟨o, he, hrow, hb'⟩
    obtain ⟨OA, oc, rfl, _, _⟩ := own_form hrow
    exact ⟨OA, oc, he, own_ops hrow (chain_len t 0), hb', hb.trans (hb'.mono hb.size)⟩))
  go_upto_region 6 with fail
  go_cut [8, 9] (fun p e wx => ∃ pb OA oc, p = .pointer (some ⟨pb, 0, none⟩) ∧ e = .int .i64 0 ∧ w2.heap.size ≤ pb ∧ Blk wx pb 155 (comL a (.slice OA t.length oc)) ∧ OpsIs wx (OpB wx) (.slice OA t.length oc) (chain t) ∧ Below w2.heap.size w2 wx)
  case first =>
    obtain ⟨PS, hPS⟩ : ∃ PS : World → Prop, ∀ x, PS x ↔ Below w2.heap.size w2 x := ⟨_, fun _ => Iff.rfl⟩
    have s0 : ∀ s : Cls PS, s.1.cell? ⟨rc, 0, none⟩ = some (.pointer (some ⟨r, 0, none⟩)) := fun s => (hrc2.out.below ((hPS _).1 s.2) hrc2.out.lt).cell 0
    have s1 : ∀ s : Cls PS, s.1.cell? ⟨r, 4, none⟩ = some (.string ⟨a.toArray⟩) := fun s => (hR2.out.below ((hPS _).1 s.2) hR2.out.lt).cell 4
    have s2 : ∀ s : Cls PS, s.1.cell? ⟨ob, 0, none⟩ = some (.string ⟨#[]⟩) := fun s => (hob2.out.below ((hPS _).1 s.2) hob2.out.lt).cell 0
    have s3 : ∀ s : Cls PS, s.1.cell? ⟨tb, 0, none⟩ = some (.string ⟨t.toArray⟩) := fun s => (htb2.out.below ((hPS _).1 s.2) htb2.out.lt).cell 0
    have hbd := (Below.refl w2.heap.size w2).drew
    have s4 : PS w2.drew := (hPS _).2 hbd
    haveI : Nonempty (Cls PS) := ⟨⟨_, s4⟩⟩
    replace hPS := Lib.hid hPS
    refine region_plan (fun w' => ∃ s : Cls PS, w' = s.1) (.two [0, 2, 3, 4, 5, 6, 7, 8] 1 (.two [] 9 (.one [10, 11, 12] 13 (.one [] 14 (.tail []))) 13 (.one [] 9 (.one [10, 11, 12] 14 (.tail [])))) 13 (.one [] 1 (.one [] 9 (.one [10, 11, 12] 14 (.tail []))))) 15 [] (by kernel_rfl) (by kernel_rfl) (fun _ d _ _ _ h => by cases d <;> exact h) ⟨⟨_, s4⟩, rfl⟩ ?_
    simp only [wpPlan, stepG, pickOps, List.map_cons, List.map_nil, nthOp_zero, nthOp_succ]
    repeat (first | go_big_quiet_step (fail))
    refine wpQuiet_nil ?_
    refine ⟨?_, ?_⟩
    · intro K hK
      go_simp
      refine (hpast.out _ hbd).mono ?_
      rintro e w4 ⟨rfl, hb4, hb4'⟩
      refine hK _ _ ⟨⟨_, (hPS.out _).2 hb4'⟩, rfl⟩ ?_
      clear hK
      have hs4 := hb4'.size
      refine wpQuiet_nil ?_
      refine ⟨?_, ?_⟩
      · intro K hK
        go_simp
        refine (hcom.out _ hb4').mono ?_
        rintro e w5 ⟨OA, oc, rfl, hO5, hb5, hb5'⟩
        refine hK _ _ ⟨⟨_, (hPS.out _).2 hb5'⟩, rfl⟩ ?_
        clear hK
        have hpz := hb5'.size
        have hOz := (KeepsR.below ((Below.refl w5.heap.size w5).alloc (Nat.le_refl _) (.cells [nilS, .string ⟨#[]⟩, .string ⟨#[]⟩, nilS].toArray 155))).opb hO5
        have hbz := hb5'.alloc hpz (.cells [nilS, .string ⟨#[]⟩, .string ⟨#[]⟩, nilS].toArray 155)
        have hBz := Blk.new_at (w := w5) (t := 155) (cs := [nilS, .string ⟨#[]⟩, .string ⟨#[]⟩, nilS]) rfl
        replace hO5 := Lib.hid hO5
        repeat (first | go_big_quiet_step (fail))
        refine wpQuiet_nil ?_
        intro K hK
        go_simp
        obtain ⟨q1, q2, q3⟩ := box_store hbz hpz hBz hOz (comL a (.slice OA t.length oc))
        refine hK _ _ ⟨⟨_, (hPS.out _).2 hbz⟩, rfl⟩ ?_
        clear hK
        replace hOz := Lib.hid hOz
        replace q1 := Lib.hid q1
        replace q2 := Lib.hid q2
        replace q3 := Lib.hid q3
        replace hBz := Lib.hid hBz
        replace hpz := Lib.hid hpz
        repeat (first | go_big_quiet_step (fail))
        refine wpQuiet_nil ?_
        intro K hK
        refine step_store_blk _ rfl 155 (.tmp 8) (.tmp 38) rfl w5.heap.size (comL a (.slice OA t.length oc)) rfl rfl 155 [nilS, .string ⟨#[]⟩, .string ⟨#[]⟩, nilS] hBz.out rfl (comSz _ _) (by simp [comL, Value.oneCell']) ?_
        refine hK _ _ ⟨⟨_, (hPS.out _).2 q3.out⟩, rfl⟩ ?_
        clear hK
        refine wpQuiet_nil ?_
        go_wp2_with fail
        go_meet
        exact ⟨_, OA, oc, rfl, rfl, hpz.out, q1.out, q2.out, q3.out⟩
      · intro K hK
        go_simp
        have hba := hb4'.alloc hs4 (.cells [nilS, .string ⟨#[]⟩, .string ⟨#[]⟩, nilS].toArray 155)
        have hBa := Blk.new_at (w := w4) (t := 155) (cs := [nilS, .string ⟨#[]⟩, .string ⟨#[]⟩, nilS]) rfl
        refine hK _ _ ⟨⟨_, (hPS.out _).2 hba⟩, rfl⟩ ?_
        clear hK
        refine wpQuiet_nil ?_
        intro K hK
        go_simp
        refine (hcom.out _ hba).mono ?_
        rintro e w5 ⟨OA, oc, rfl, hOz, hb5, hbz⟩
        have hBz := hBa.below hb5 hBa.lt
        have hpz := hs4
        clear hBa hba
        obtain ⟨q1, q2, q3⟩ := box_store hbz hpz hBz hOz (comL a (.slice OA t.length oc))
        refine hK _ _ ⟨⟨_, (hPS.out _).2 hbz⟩, rfl⟩ ?_
        clear hK
        replace hOz := Lib.hid hOz
        replace q1 := Lib.hid q1
        replace q2 := Lib.hid q2
        replace q3 := Lib.hid q3
        replace hBz := Lib.hid hBz
        replace hpz := Lib.hid hpz
        repeat (first | go_big_quiet_step (fail))
        refine wpQuiet_nil ?_
        intro K hK
        refine step_store_blk _ rfl 155 (.tmp 8) (.tmp 38) rfl w4.heap.size (comL a (.slice OA t.length oc)) rfl rfl 155 [nilS, .string ⟨#[]⟩, .string ⟨#[]⟩, nilS] hBz.out rfl (comSz _ _) (by simp [comL, Value.oneCell']) ?_
        refine hK _ _ ⟨⟨_, (hPS.out _).2 q3.out⟩, rfl⟩ ?_
        clear hK
        refine wpQuiet_nil ?_
        go_wp2_with fail
        go_meet
        exact ⟨_, OA, oc, rfl, rfl, hpz.out, q1.out, q2.out, q3.out⟩
    · intro K hK
      go_simp
      have hba := hbd.alloc hbd.size (.cells [nilS, .string ⟨#[]⟩, .string ⟨#[]⟩, nilS].toArray 155)
      have hBa := Blk.new_at (w := w2.drew) (t := 155) (cs := [nilS, .string ⟨#[]⟩, .string ⟨#[]⟩, nilS]) rfl
      refine hK _ _ ⟨⟨_, (hPS.out _).2 hba⟩, rfl⟩ ?_
      clear hK
      refine wpQuiet_nil ?_
      intro K hK
      go_simp
      refine (hpast.out _ hba).mono ?_
      rintro e w4 ⟨rfl, hb4, hb4'⟩
      have hBc := hBa.below hb4 hBa.lt
      refine hK _ _ ⟨⟨_, (hPS.out _).2 hb4'⟩, rfl⟩ ?_
      clear hK
      refine wpQuiet_nil ?_
      intro K hK
      go_simp
      refine (hcom.out _ hb4').mono ?_
      rintro e w5 ⟨OA, oc, rfl, hOz, hb5, hbz⟩
      have hBz := hBc.below hb5 hBc.lt
      have hpz := hbd.size
      clear hBa hba hBc
      obtain ⟨q1, q2, q3⟩ := box_store hbz hpz hBz hOz (comL a (.slice OA t.length oc))
      refine hK _ _ ⟨⟨_, (hPS.out _).2 hbz⟩, rfl⟩ ?_
      clear hK
      replace hOz := Lib.hid hOz
      replace q1 := Lib.hid q1
      replace q2 := Lib.hid q2
      replace q3 := Lib.hid q3
      replace hBz := Lib.hid hBz
      replace hpz := Lib.hid hpz
      repeat (first | go_big_quiet_step (fail))
      refine wpQuiet_nil ?_
      intro K hK
      refine step_store_blk _ rfl 155 (.tmp 8) (.tmp 38) rfl w2.heap.size (comL a (.slice OA t.length oc)) rfl rfl 155 [nilS, .string ⟨#[]⟩, .string ⟨#[]⟩, nilS] hBz.out rfl (comSz _ _) (by simp [comL, Value.oneCell']) ?_
      refine hK _ _ ⟨⟨_, (hPS.out _).2 q3.out⟩, rfl⟩ ?_
      clear hK
      refine wpQuiet_nil ?_
      go_wp2_with fail
      go_meet
      exact ⟨_, OA, oc, rfl, rfl, hpz.out, q1.out, q2.out, q3.out⟩
  case rest =>
    obtain ⟨pb, OA, oc, rfl, rfl, hpb, hB, hO, hb⟩ := hcut
    have n0 : wc.cell? ⟨nb, 0, none⟩ = some (.string ⟨n.toArray⟩) := (hnb2.out.below hb hnb2.out.lt).cell 0
    have r0 : wc.cell? ⟨rc, 0, none⟩ = some (.pointer (some ⟨r, 0, none⟩)) := (hrc2.out.below hb hrc2.out.lt).cell 0
    have p0 : wc.cell? ⟨pb, 0, none⟩ = some nilS := hB.cell 0
    have p1 : wc.cell? ⟨pb, 1, none⟩ = some (.string ⟨a.toArray⟩) := hB.cell 1
    have p2 : wc.cell? ⟨pb, 2, none⟩ = some (.string ⟨#[]⟩) := hB.cell 2
    have p3 : wc.cell? ⟨pb, 3, none⟩ = some (.slice OA t.length oc) := hB.cell 3
    have hpl := place_first a t n hn ha ht h0 (h2.out.below hb) hS.out hroom r by_ (hR2.out.below hb hR2.out.lt) hr OA oc hO.fr hky.out
    have hic3 := hic2.out.below hb hic2.out.lt
    have hb3 := hb2'.out.trans (hb.mono hb2'.out.size)
    unfold strV comL at hpl
    clear hB hO hb hpast hcom
    replace hic3 := Lib.hid hic3
    replace hb3 := Lib.hid hb3
    go_wp2_with fail
    refine hpl.mono ?_
    rintro e w4 ⟨rfl, hk4, h4⟩
    clear hpl n0 r0 p0 p1 p2 p3
    obtain ⟨ds, hds⟩ : ∃ ds, ds = idT a t := ⟨_, rfl⟩
    have hdl : ds.length = 32 := by rw [hds]; exact idT_len a t
    rw [← hds]
    have hic4 := hk4.blk _ _ _ hic3.out (by decide) (by decide) (by decide) (by decide)
    replace hds := Lib.hid hds
    replace hdl := Lib.hid hdl
    replace hk4 := Lib.hid hk4
    replace h4 := Lib.hid h4
    replace hic4 := Lib.hid hic4
    go_wp2_with (first | (refine wpList_store_blk rfl 115 (.tmp 4) (.tmp 49) rfl ic (ds.map B) rfl rfl 115 zero32 hic4.out (by simp [hdl.out, zero32]) (digSz hdl.out) (all_B _) ?_) | fail)
    have ht5 : Touch [ic] w4 (w4.setRow ic (ds.map B).toArray) := Touch.setRow (by simp) _
    have hi5 : Blk (w4.setRow ic (ds.map B).toArray) ic 115 (ds.map B) := hic4.out.setRow_same _
    have hk5 : KeepsC ic w (w4.setRow ic (ds.map B).toArray) := ⟨fun k t' cs hB a1 a2 a3 a4 a5 =>
      (hk4.out.blk k t' cs (hB.below hb3.out hB.lt) a1 a2 a3 a4).touch ht5 (by simpa using a5), fun k o ho hm => mark_touch ht5 (hk4.out.mark k o ((hb3.out.block k (lt_of_heap ho)).trans ho) hm) (by
        have h1 := hk4.out.mark k o ((hb3.out.block k (lt_of_heap ho)).trans ho) hm
        intro hf
        obtain rfl : k = ic := by simpa using hf
        exact mark_blk h1 hm hic4.out)⟩
    have h5 := (h4.out.touch ht5 (fun i hi => by
      obtain rfl : i = ic := by simpa using hi
      exact ⟨hicb, by have := hb3.out.size; omega, _, _, hic4.out, by decide, by decide, by decide, by decide, by decide, by decide, by decide⟩)).lower hbs hb3.out.size
    generalize w4.setRow ic (ds.map B).toArray = w5 at hi5 hk5 h5 ⊢
    clear ht5
    replace hi5 := Lib.hid hi5
    replace hk5 := Lib.hid hk5
    replace h5 := Lib.hid h5
    go_wp2_with fail
    go_returns
    rw [← hds.out]
    exact ⟨rfl, hk5.out, hi5.out, h5.out⟩
end Go.Proofs.YtamdhaoglapnnaaGreatDoor
end
section
/- A first commit of a repository. -/
namespace Go.Proofs.YtamdhaoglapnnaaGreatDoor
open Go.RowKit

theorem setCell_idem {w : World} {g i : Nat} {t : TypeId} {cs : List Value} {v : Value} (h : Blk w g t cs) (hi : cs[i]? = some v) : w.setCell ⟨g, i, none⟩ v = w := by
  have e1 : w.setCell ⟨g, i, none⟩ v = w.setRow g (cs.set i v).toArray := by
    unfold World.setCell World.setRow
    congr 1
    apply Array.ext_getElem?
    intro k
    rw [Array.getElem?_modify, Array.getElem?_modify]
    by_cases hk : g = k
    · subst hk
      have h1 : w.heap[g]? = some (.cells cs.toArray t (0, 0)) := h
      rw [if_pos rfl, if_pos rfl, h1]
      simp
    · rw [if_neg hk, if_neg hk]
  have e2 : cs.set i v = cs := by
    apply List.ext_getElem?
    intro k
    rw [List.getElem?_set]
    split
    · rename_i hk
      subst hk
      have := (List.getElem?_eq_some_iff.1 hi).1
      rw [if_pos this, hi]
    · rfl
  rw [e1, e2, setRow_idem h]
set_option maxRecDepth 100000 in
set_option maxHeartbeats 4000000 in
theorem writes_first {w0 : World} {base g rb : Nat} {S : DS} {v : Value} {w : World} (a t n : Str) (hn : nmOk n = true) (ha : nmOk a = true) (ht : t.length ≤ 1000) (h0 : t ≠ []) (h : Ref w0 base rb g v S [] w) (hS : Live S none) (hroom : 1000000 ≤ S.room) (r by_ : Nat) (hR : Blk w r 104 (repoCells nilS by_ rb g a false)) (hr : base ≤ r)
    (hky : ∀ W, Below base w0 W → KeysIn W) (nb rc ob tb ic : Nat) (hnb : Blk w nb 9 [strV n]) (hrc : Blk w rc 33 [.pointer (some ⟨r, 0, none⟩)]) (hob : Blk w ob 9 [strV []]) (htb : Blk w tb 9 [strV t]) (hic : Blk w ic 115 zero32) (hicb : base ≤ ic) :
    Calls Tryz.prog 106 #[.pointer (some ⟨r, 0, none⟩), .func (.func 107) #[] #[.pointer (some ⟨nb, 0, none⟩), .pointer (some ⟨rc, 0, none⟩), .pointer (some ⟨ob, 0, none⟩), .pointer (some ⟨tb, 0, none⟩), .pointer (some ⟨ic, 0, none⟩)]] w fun e w' => e = .returned (.int .i64 0) ∧ KeepsC ic w w' ∧ Blk w' ic 115 ((idT a t).map B) ∧ OneSt w0 base w.heap.size g rb r a t n w' := by
  have hm := rmade_any r nilS by_ rb g a false w hR
  have r5 : w.cell? ⟨r, 5, none⟩ = some (.bool false) := hR.cell 5
  have hc1 := Lib.hid (commit1_first a t n hn ha ht h0 h hS hroom r by_ hR hr hky nb rc ob tb ic hnb hrc hob htb hic hicb)
  clear hnb hrc hob htb hic hR h
  go_enter Tryz.func106, Tryz.ntmps106
  go_wp2_with fail
  refine hm.mono ?_
  rintro e w1 ⟨rfl, rfl⟩
  go_wp2_with fail
  refine hc1.out.mono ?_
  rintro e w2 ⟨rfl, hk2, hi2, h2⟩
  obtain ⟨lb, lc, rest, by', V, v', S', hR2, _⟩ := h2.st
  have q5 : w2.cell? ⟨r, 5, none⟩ = some (.bool false) := hR2.cell 5
  have f5 := hR2.frozen 5
  have hid5 : w2.setCell ⟨r, 5, none⟩ (.bool false) = w2 := setCell_idem hR2 rfl
  clear hR2
  replace hk2 := Lib.hid hk2
  replace hi2 := Lib.hid hi2
  replace h2 := Lib.hid h2
  clear r5
  go_wp2_with fail
  go_returns
  exact ⟨rfl, hk2.out, hi2.out, h2.out⟩
set_option maxRecDepth 100000 in
set_option maxHeartbeats 4000000 in
theorem rcommit_first {w0 : World} {base g rb : Nat} {S : DS} {v : Value} {w : World} (a t n : Str) (hn : nmOk n = true) (ha : nmOk a = true) (ht : t.length ≤ 1000) (h0 : t ≠ []) (h : Ref w0 base rb g v S [] w) (hS : Live S none) (hroom : 1000000 ≤ S.room) (r by_ : Nat) (hR : Blk w r 104 (repoCells nilS by_ rb g a false)) (hr : base ≤ r)
    (hky : ∀ W, Below base w0 W → KeysIn W) :
    Calls Tryz.prog 64 #[.pointer (some ⟨r, 0, none⟩), strV n, strV [], strV t] w fun e w' => e = .returned (.tuple #[.agg ((idT a t).map B).toArray, .int .i64 0]) ∧ KeepsR w w' ∧ OneSt w0 base w.heap.size g rb r a t n w' := by
  have hbs := h.size
  generalize hW : ((((w.alloc (.cells #[.pointer (some ⟨r, 0, none⟩)] 33)).alloc (.cells #[strV n] 9)).alloc (.cells #[strV []] 9)).alloc (.cells #[strV t] 9)) = w1
  have hb1 : Below w.heap.size w w1 := by rw [← hW]; exact ((((Below.refl _ _).alloc (Nat.le_refl _) _).alloc (by simp) _).alloc (by simp; omega) _).alloc (by simp; omega) _
  have hs1 : w1.heap.size = w.heap.size + 4 := by rw [← hW]; simp
  have h1r : Blk w1 w.heap.size 33 [.pointer (some ⟨r, 0, none⟩)] := by rw [← hW]; exact (((Blk.new_at (cs := [_]) rfl).alloc _).alloc _).alloc _
  have h1n : Blk w1 (w.heap.size + 1) 9 [strV n] := by rw [← hW]; exact ((Blk.new_at (cs := [_]) (by simp)).alloc _).alloc _
  have h1o : Blk w1 (w.heap.size + 2) 9 [strV []] := by rw [← hW]; exact (Blk.new_at (cs := [_]) (by simp)).alloc _
  have h1t : Blk w1 (w.heap.size + 3) 9 [strV t] := by rw [← hW]; exact Blk.new_at (cs := [_]) (by simp)
  have q0 : w1.cell? ⟨w.heap.size, 0, none⟩ = some (.pointer (some ⟨r, 0, none⟩)) := h1r.cell 0
  have q1 : ∀ o, (w1.alloc o).cell? ⟨w.heap.size, 0, none⟩ = some (.pointer (some ⟨r, 0, none⟩)) := fun o => (h1r.alloc o).cell 0
  replace h1r := Lib.hid h1r
  replace h1n := Lib.hid h1n
  replace h1o := Lib.hid h1o
  replace h1t := Lib.hid h1t
  replace h := Lib.hid h
  replace hR := Lib.hid hR
  unfold strV at hW ⊢
  go_enter Tryz.func64, Tryz.ntmps64
  go_wp2_with fail
  generalize hW2 : World.alloc w1 _ = w2
  have hb2 : Below w1.heap.size w1 w2 := by rw [← hW2]; exact (Below.refl _ _).alloc (Nat.le_refl _) _
  have hi2 : Blk w2 (w.heap.size + 4) 115 zero32 := by rw [← hW2]; exact Blk.new_at (cs := zero32) hs1.symm
  have h2r := h1r.out.below hb2 h1r.out.lt
  have h2n := h1n.out.below hb2 h1n.out.lt
  have h2o := h1o.out.below hb2 h1o.out.lt
  have h2t := h1t.out.below hb2 h1t.out.lt
  have hb2' := hb1.trans (hb2.mono hb1.size)
  have h2 := h.out.below hb2'
  have hR2 := hR.out.below hb2' hR.out.lt
  have hwr := writes_first a t n hn ha ht h0 h2 hS hroom r by_ hR2 hr hky _ _ _ _ _ h2n h2r h2o h2t hi2 (by omega)
  clear hW hW2 q0 q1 h1r h1n h1o h1t hb1 hb2 hs1 h2r h2n h2o h2t h2 hR2
  replace hb2' := Lib.hid hb2'
  refine hwr.mono ?_
  rintro e w3 ⟨rfl, hk3, hi3, h3⟩
  clear hwr hi2
  obtain ⟨ds, hds⟩ : ∃ ds, ds = idT a t := ⟨_, rfl⟩
  have hdl : ds.length = 32 := by rw [hds]; exact idT_len a t
  rw [← hds] at hi3
  have hrow := setRow_idem hi3
  replace hds := Lib.hid hds
  replace hdl := Lib.hid hdl
  replace hk3 := Lib.hid hk3
  replace h3 := Lib.hid h3
  replace hi3 := Lib.hid hi3
  replace hrow := Lib.hid hrow
  go_wp2_with (first
    | (refine wpList_load_blk rfl 115 (.tmp 8) rfl (w.heap.size + 4) rfl 115 (ds.map B) hi3.out _ Tryz.underlying115 rfl (digSz hdl.out) ?_)
    | (refine wpList_store_blk rfl 115 (.tmp 8) (.tmp 13) rfl (w.heap.size + 4) (ds.map B) rfl rfl 115 (ds.map B) hi3.out rfl (digSz hdl.out) (all_B _) ?_)
    | fail)
  rw [hrow.out]
  refine ret_blk2 rfl (w.heap.size + 4) 115 (ds.map B) _ (.int .i64 0) rfl rfl hi3.out Tryz.underlying115 rfl (digSz hdl.out) rfl ⟨by rw [hds.out], ⟨fun k t' cs hB a1 a2 a3 a4 => hk3.out.blk k t' cs (hB.below hb2'.out hB.lt) a1 a2 a3 a4 (by have := hB.lt; omega), fun k o ho hm => hk3.out.mark k o ((hb2'.out.block k (lt_of_heap ho)).trans ho) hm⟩, h3.out.lower hbs hb2'.out.size⟩
end Go.Proofs.YtamdhaoglapnnaaGreatDoor
end
