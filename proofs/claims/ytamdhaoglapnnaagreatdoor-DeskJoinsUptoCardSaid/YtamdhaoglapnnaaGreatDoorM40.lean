/- A first commit takes its place. -/
import Derived.Test.YtamdhaoglapnnaaGreatDoorM39
namespace Go.Proofs.YtamdhaoglapnnaaGreatDoor
open Go.RowKit

theorem indexN_nil (A : Option Addr) (c : Nat) (f : Value) (w : World) : Calls Tryz.prog 250 #[.slice A 0 c, f] w fun e w' => e = .returned (.int .i64 (-1)) ∧ Below w.heap.size w w' := by
  go_enter Tryz.func250, Tryz.ntmps250
  go_wp2_with fail
  refine wp_loop_rounds 1 ?_
  rw [rounds_succ]
  go_wp2_with fail
  go_returns
  exact ⟨rfl, Below.refl _ _⟩
theorem containsN_nil (A : Option Addr) (c : Nat) (f : Value) (w : World) : Calls Tryz.prog 176 #[.slice A 0 c, f] w fun e w' => e = .returned (.bool false) ∧ Below w.heap.size w w' := by
  go_enter Tryz.func176, Tryz.ntmps176
  go_wp2_with fail
  refine (indexN_nil _ _ _ _).mono ?_
  rintro e w2 ⟨rfl, hb2⟩
  go_wp2_with fail
  go_returns
  exact ⟨rfl, hb2⟩
theorem hd_one {W : World} {ok : Nat → Prop} {hb : Nat} {ds : Str} (hH : Blk W hb 115 (ds.map B)) (hk : ok hb) : HdIs W ok (.slice (some ⟨hb, 0, none⟩) 1 1) [ds] :=
  ⟨_, 1, rfl, Nat.le_refl _, Rd.of_blk (r := []) hH (by simp [hCells]) hk⟩
theorem chs_one {W : World} {ok : Nat → Prop} {cb hb : Nat} {n ds : Str} (hC : Blk W cb 180 [strV n, nilS, .slice (some ⟨hb, 0, none⟩) 1 1]) (hH : Blk W hb 115 (ds.map B)) (h1 : ok cb) (h2 : ok hb) :
    ChsIs W ok (.slice (some ⟨cb, 0, none⟩) 1 1) (oneC n ds) := by
  refine ⟨_, 1, [(nilS, .slice (some ⟨hb, 0, none⟩) 1 1)], rfl, rfl, Nat.le_refl _, Rd.of_blk (r := []) hC rfl h1, fun k b u e1 e2 => ?_⟩
  match k, e1, e2 with
  | 0, e1, e2 =>
    simp only [List.getElem?_cons_zero, Option.some.injEq] at e1 e2
    subst e1; subst e2
    exact ⟨HdIs.nil, hd_one hH h2⟩
  | k + 1, e1, _ => simp at e1
/-- What a first commit leaves. -/
structure OneSt (w0 : World) (base ob g rb r : Nat) (a t n : Str) (w : World) : Prop where
  le : base ≤ ob
  st : ∃ lb lc rest by' V v' S', Blk w r 104 (repoCells (.slice (some ⟨lb, 0, none⟩) 1 lc) by' rb g a false) ∧ Blk w lb 155 (comL a V ++ rest) ∧ OpsIs w (OpB w) V (chain t) ∧ MapV w by' [(.agg ((idT a t).map B).toArray, .int .i64 0)] ∧ Ref w0 base rb g v' S' (oneT n (idT a t)) w ∧ OwnTab w ob v' (oneT n (idT a t)) ∧ base ≤ lb ∧ base ≤ by'
theorem OneSt.touch {w0 : World} {base ob g rb r : Nat} {a t n : Str} {w w' : World} {M : List Nat} (h : OneSt w0 base ob g rb r a t n w) (ht : Touch M w w') (hM : ∀ i ∈ M, base ≤ i ∧ i < ob ∧ ∃ ty cs, Blk w i ty cs ∧ ty ≠ 104 ∧ ty ≠ 155 ∧ ty ≠ 283 ∧ ty ≠ 147 ∧ ty ≠ 90 ∧ ty ≠ 145 ∧ ty ≠ 9) : OneSt w0 base ob g rb r a t n w' := by
  obtain ⟨lb, lc, rest, by', V, v', S', h1, h2, h3, h4, h5, h6, h7, h8⟩ := h.st
  have key : ∀ i ty cs, Blk w i ty cs → (ty = 104 ∨ ty = 155 ∨ ty = 283 ∨ ty = 147 ∨ ty = 9) → i ∉ M := fun i ty cs hB hty hm => by
    obtain ⟨_, _, ty', cs', hB', k1, k2, k3, k4, k5, k6, k7⟩ := hM i hm
    have e := hB.unique hB'
    subst e
    rcases hty with e | e | e | e | e
    · exact k1 e
    · exact k2 e
    · exact k3 e
    · exact k4 e
    · exact k7 e
  have how := h6.touchLow ht (fun i hi => (hM i hi).2.1)
  obtain ⟨L, hD, hL⟩ := h5.disk
  have hdisk : ∀ i ∈ L, i ∉ M := fun i hi hm => by
    obtain ⟨_, _, ty', cs', hB', k1, k2, k3, k4, k5, k6, k7⟩ := hM i hm
    exact hD.tag hB' k5 k6 hi
  refine ⟨h.le, lb, lc, rest, by', V, v', S', h1.touch ht (key _ _ _ h1 (.inl rfl)), h2.touch ht (key _ _ _ h2 (.inr (.inl rfl))), h3.touchB ht (fun i hi cs hB => key _ _ _ hB (.inr (.inr (.inl rfl))) hi), h4.touch ht (fun hm => ?_), ⟨⟨h5.bel.trans (ht.below h5.size (fun i hi => (hM i hi).1)), Nat.le_trans h5.size ht.size, L, hD.touch ht hdisk (fun i hi cs hB => key _ _ _ hB (.inr (.inr (.inr (.inr rfl)))) hi), hL⟩, h5.low, h5.ref.touch ht (key _ _ _ h5.ref (.inr (.inr (.inr (.inl rfl))))), ?_⟩, how, h7, h8⟩
  · obtain ⟨_, _, ty', cs', hB', _⟩ := hM _ hm
    exact h4.ne_blk hB' rfl
  · exact how.lower h.le
theorem OneSt.lower {w0 : World} {base ob ob' g rb r : Nat} {a t n : Str} {w : World} (h : OneSt w0 base ob g rb r a t n w) (h1 : base ≤ ob') (h2 : ob' ≤ ob) : OneSt w0 base ob' g rb r a t n w := by
  obtain ⟨lb, lc, rest, by', V, v', S', k1, k2, k3, k4, k5, k6, k7, k8⟩ := h.st
  exact ⟨h1, lb, lc, rest, by', V, v', S', k1, k2, k3, k4, k5, k6.lower h2, k7, k8⟩
theorem turn_one {w0 : World} {base g rb : Nat} {S : DS} {v u : Value} {w : World} (a t n : Str) (hn : nmOk n = true) (ha : nmOk a = true) (ht : t.length ≤ 1000) (h0 : t ≠ []) (h : Ref w0 base rb g v S [] w) (hS : Live S none) (hroom : 1000000 ≤ S.room) (r by_ : Nat) (hR : Blk w r 104 (repoCells nilS by_ rb g a false)) (hr : base ≤ r)
    (OA : Option Addr) (oc : Nat) (hO : OpsIs w (Fr w) (.slice OA t.length oc) (chain t)) (fb fc : Nat) (rest : List Value) (hF : Blk w fb 155 (comL a (.slice OA t.length oc) ++ rest)) (hC : ChsIs w (Fr w) u (oneC n (idT a t))) (hky : ∀ W, Below base w0 W → KeysIn W) :
    Calls Tryz.prog 114 #[.pointer (some ⟨r, 0, none⟩), .slice (some ⟨fb, 0, none⟩) 1 fc, u] w fun e w' => e = .returned (.int .i64 0) ∧ KeepsR w w' ∧ OneSt w0 base w.heap.size g rb r a t n w' :=
  (turn_first a t n hn ha ht h0 h hS hroom r by_ hR hr OA oc hO fb fc rest hF hC hky).mono (by
    rintro e w' ⟨he, hk, hs⟩
    exact ⟨he, hk, ⟨h.size, hs⟩⟩)
set_option maxRecDepth 100000 in
set_option maxHeartbeats 16000000 in
theorem place_first {w0 : World} {base g rb : Nat} {S : DS} {v : Value} {w : World} (a t n : Str) (hn : nmOk n = true) (ha : nmOk a = true) (ht : t.length ≤ 1000) (h0 : t ≠ []) (h : Ref w0 base rb g v S [] w) (hS : Live S none) (hroom : 1000000 ≤ S.room) (r by_ : Nat) (hR : Blk w r 104 (repoCells nilS by_ rb g a false)) (hr : base ≤ r)
    (OA : Option Addr) (oc : Nat) (hO : OpsIs w (Fr w) (.slice OA t.length oc) (chain t)) (hky : ∀ W, Below base w0 W → KeysIn W) :
    Calls Tryz.prog 112 #[.pointer (some ⟨r, 0, none⟩), strV n, nilS, .agg (comL a (.slice OA t.length oc)).toArray] w fun e w' => e = .returned (.tuple #[.agg ((idT a t).map B).toArray, .int .i64 0]) ∧ KeepsR w w' ∧ OneSt w0 base w.heap.size g rb r a t n w' := by
  unfold strV
  generalize hW1 : (w.alloc (.cells (comL a (.slice OA t.length oc)).toArray 155)) = w1
  have hb1 : Below w.heap.size w w1 := by rw [← hW1]; exact (Below.refl _ _).alloc (Nat.le_refl _) _
  have hX1 : Blk w1 w.heap.size 155 (comL a (.slice OA t.length oc)) := by rw [← hW1]; exact Blk.new_at rfl
  have hR1 := hR.below hb1 hR.lt
  have h1 := h.below hb1
  have hO1 := (KeepsR.below hb1).ops hO
  have hk1 := KeepsR.below hb1
  obtain ⟨xb, hxb⟩ : ∃ xb, xb = w.heap.size := ⟨_, rfl⟩
  rw [← hxb] at hX1
  replace hxb := Lib.hid hxb
  go_enter Tryz.func112, Tryz.ntmps112
  go_wp2_with (first
    | (refine wpList_load_blk rfl 155 (.tmp 7) rfl w.heap.size rfl 155 (comL a (.slice OA t.length oc)) (by rw [← hxb.out]; exact hX1.alloc _) _ Tryz.underlying155 rfl (comSz _ _) ?_
       generalize hW2 : World.alloc w1 _ = w2
       go_frame)
    | fail)
  have hb2 : Below w1.heap.size w1 w2 := by rw [← hW2]; exact (Below.refl _ _).alloc (Nat.le_refl _) _
  have hZ2 : Blk w2 w1.heap.size 115 zero32 := by rw [← hW2]; exact Blk.new_at (cs := zero32) rfl
  have hX2 := hX1.below hb2 hX1.lt
  have hR2 := hR1.below hb2 hR1.lt
  have h2 := h1.below hb2
  have hO2 := (KeepsR.below hb2).ops hO1
  have hk2 := hk1.trans (KeepsR.below hb2)
  obtain ⟨zb, hzb⟩ : ∃ zb, zb = w1.heap.size := ⟨_, rfl⟩
  have hxb' := hxb.out
  have hwz : w.heap.size ≤ zb := by have := hb1.size; omega
  have hbs := h.size
  rw [← hzb] at hZ2 ⊢
  rw [← hxb']
  clear hW1 hW2 hb2 hX1 hR1 h1 hO1 hk1 hb1 hzb hxb' hR h
  refine (id_first a t _ _ w2 hO2 ha ht (hky _ h2.bel)).mono ?_
  rintro e w3 ⟨rfl, hb3⟩
  have hZ3 := hZ2.below hb3 hZ2.lt
  have hX3 := hX2.below hb3 hX2.lt
  have hR3 := hR2.below hb3 hR2.lt
  have h3 := h2.below hb3
  have hO3 := (KeepsR.below hb3).ops hO2
  have hk3 := hk2.trans (KeepsR.below hb3)
  clear hb3 hZ2 hX2 hR2 h2 hO2 hk2
  obtain ⟨ds, hds⟩ : ∃ ds, ds = idT a t := ⟨_, rfl⟩
  have hdl : ds.length = 32 := by rw [hds]; exact idT_len a t
  rw [← hds]
  replace hds := Lib.hid hds
  replace hdl := Lib.hid hdl
  replace hZ3 := Lib.hid hZ3
  replace hX3 := Lib.hid hX3
  replace hR3 := Lib.hid hR3
  replace h3 := Lib.hid h3
  replace hO3 := Lib.hid hO3
  replace hk3 := Lib.hid hk3
  replace hky := Lib.hid hky
  replace hS := Lib.hid hS
  replace hO := Lib.hid hO
  go_wp2_with (first
    | (refine wpList_store_blk rfl 115 (.tmp 10) (.tmp 21) rfl w3.heap.size (ds.map B) rfl rfl 115 zero32 (Blk.new_at rfl) (by simp [hdl.out, zero32]) (digSz hdl.out) (all_B _) ?_
       generalize hw1 : World.setRow _ w3.heap.size (ds.map B).toArray = w4
       have hD4 : Blk w4 w3.heap.size 115 (ds.map B) := by
         rw [← hw1]
         exact (Blk.new_at (w := w3) (t := 115) (cs := zero32) rfl).setRow_same (ds.map B)
       have hb4 : Below w3.heap.size w3 w4 := by
         rw [← hw1]
         exact below_setRow ((Below.refl w3.heap.size w3).alloc (Nat.le_refl _) (.cells zero32.toArray 115)) (Nat.le_refl _) (ds.map B).toArray
       clear hw1
       replace hD4 := Lib.hid hD4
       replace hb4 := Lib.hid hb4
       go_frame)
    | fail)
  have hZ4 := hZ3.out.below hb4.out hZ3.out.lt
  have hX4 := hX3.out.below hb4.out hX3.out.lt
  have hR4 := hR3.out.below hb4.out hR3.out.lt
  have h4 := h3.out.below hb4.out
  have hO4 := (KeepsR.below hb4.out).ops hO3.out
  have hk4 := hk3.out.trans (KeepsR.below hb4.out)
  have hD4' := hD4.out
  obtain ⟨db, hdb⟩ : ∃ db, db = w3.heap.size := ⟨_, rfl⟩
  rw [← hdb] at hD4' ⊢
  clear hdb hD4 hb4 hZ3 hX3 hR3 h3 hO3 hk3
  refine (past_nil r by_ rb g a false _ _ v _ w4 hR4 h4.ref h4.own.tab).mono ?_
  rintro e w5 ⟨rfl, hb5⟩
  go_wp2_with fail
  refine (nodes_nil w5).mono ?_
  rintro e w6 ⟨rfl, hb6⟩
  go_wp2_with fail
  refine (containsN_nil _ _ _ w6).mono ?_
  rintro e w7 ⟨rfl, hb7⟩
  have hb7' := (hb5.trans (hb6.mono hb5.size)).trans (hb7.mono (Nat.le_trans hb5.size hb6.size))
  have hZ7 := hZ4.below hb7' hZ4.lt
  have hX7 := hX4.below hb7' hX4.lt
  have hR7 := hR4.below hb7' hR4.lt
  have hD7 := hD4'.below hb7' hD4'.lt
  have h7 := h4.below hb7'
  have hO7 := (KeepsR.below hb7').ops hO4
  have hk7 := hk4.trans (KeepsR.below hb7')
  clear hb5 hb6 hb7 hb7' hZ4 hX4 hR4 hD4' h4 hO4 hk4
  replace hZ7 := Lib.hid hZ7
  replace hX7 := Lib.hid hX7
  replace hR7 := Lib.hid hR7
  replace hD7 := Lib.hid hD7
  replace h7 := Lib.hid h7
  replace hO7 := Lib.hid hO7
  replace hk7 := Lib.hid hk7
  have hbc : Hid (∀ W, (Instr.buildSlice 100 1 #[(0, .agg (comL a (.slice OA t.length oc)).toArray)]).run Tryz.prog W = _) := Lib.hid (fun W => bslice_com a OA t.length oc W)
  have x0 : w7.cell? ⟨xb, 0, none⟩ = some nilS := hX7.out.cell 0
  have x1 : w7.cell? ⟨xb, 1, none⟩ = some (.string ⟨a.toArray⟩) := hX7.out.cell 1
  have x2 : w7.cell? ⟨xb, 2, none⟩ = some (.string ⟨#[]⟩) := hX7.out.cell 2
  have x3 : w7.cell? ⟨xb, 3, none⟩ = some (.slice OA t.length oc) := hX7.out.cell 3
  go_upto_region 12 with (fail)
  generalize hW8 : World.alloc w7 _ = w8
  have hb8 : Below w7.heap.size w7 w8 := by rw [← hW8]; exact (Below.refl _ _).alloc (Nat.le_refl _) _
  have hF8 : Blk w8 w7.heap.size 155 (comL a (.slice OA t.length oc)) := by rw [← hW8]; exact Blk.new_at (cs := comL a (.slice OA t.length oc)) rfl
  have hZ8 := hZ7.out.below hb8 hZ7.out.lt
  have hR8 := hR7.out.below hb8 hR7.out.lt
  have hD8 := hD7.out.below hb8 hD7.out.lt
  have h8 := h7.out.below hb8
  have hO8 := (KeepsR.below hb8).ops hO7.out
  have hk8 := hk7.out.trans (KeepsR.below hb8)
  obtain ⟨fb, hfb⟩ : ∃ fb, fb = w7.heap.size := ⟨_, rfl⟩
  rw [← hfb] at hF8 ⊢
  clear x0 x1 x2 x3 hW8 hb8 hX7 hR7 hD7 h7 hO7 hk7 hZ7 hfb
  replace hZ8 := Lib.hid hZ8
  replace hR8 := Lib.hid hR8
  replace hD8 := Lib.hid hD8
  replace h8 := Lib.hid h8
  replace hO8 := Lib.hid hO8
  replace hk8 := Lib.hid hk8
  replace hF8 := Lib.hid hF8
  have hdB : Hid ((ds.map B).length = 32) := Lib.hid (by simp [hdl.out])
  go_wp2_with (first
    | (refine wpList_load_blk rfl 115 (.tmp 10) rfl db rfl 115 (ds.map B) hD8.out _ Tryz.underlying115 rfl (digSz hdl.out) ?_)
    | (refine wpList_build_dig (.tmp 53) rfl rfl (ds.map B) hdB.out rfl ?_
       generalize hW9 : World.alloc w8 _ = w9
       replace hW9 := Lib.hid hW9
       have hs9 : w9.heap.size = w8.heap.size + 1 := by rw [← hW9.out]; simp
       replace hs9 := Lib.hid hs9
       go_frame)
    | fail)
  generalize hW10 : World.alloc w9 _ = w10
  have hb9 : Below w8.heap.size w8 w9 := by rw [← hW9.out]; exact (Below.refl _ _).alloc (Nat.le_refl _) _
  have hH9 : Blk w9 w8.heap.size 115 (ds.map B) := by rw [← hW9.out]; exact Blk.new_at (cs := ds.map B) rfl
  have hb10 : Below w9.heap.size w9 w10 := by rw [← hW10]; exact (Below.refl _ _).alloc (Nat.le_refl _) _
  have hC10 : Blk w10 w9.heap.size 180 [strV n, nilS, .slice (some ⟨w8.heap.size, 0, none⟩) 1 1] := by rw [← hW10]; exact Blk.new_at (cs := [strV n, nilS, .slice (some ⟨w8.heap.size, 0, none⟩) 1 1]) rfl
  have hH10 := hH9.below hb10 hH9.lt
  have hb810 := hb9.trans (hb10.mono hb9.size)
  have hF10 := hF8.out.below hb810 hF8.out.lt
  have hR10 := hR8.out.below hb810 hR8.out.lt
  have hZ10 := hZ8.out.below hb810 hZ8.out.lt
  have hD10 := hD8.out.below hb810 hD8.out.lt
  have h10 := h8.out.below hb810
  have hO10 := (KeepsR.below hb810).ops hO8.out
  have hk10 := hk8.out.trans (KeepsR.below hb810)
  have hch := chs_one (ok := Fr w10) (n := n) (ds := ds) hC10 hH10 ⟨_, _, hC10, by decide, by decide, by decide, by decide⟩ ⟨_, _, hH10, by decide, by decide, by decide, by decide⟩
  rw [hds.out] at hch
  have htu := turn_one a t n hn ha ht h0 h10 hS.out hroom r by_ hR10 hr OA oc hO10 fb 1 [] (by simpa using hF10) hch hky.out
  clear hch hW10 hW9 hs9 hb9 hH9 hb10 hC10 hH10 hb810 hF10 hR10 h10 hO10 hF8 hR8 hZ8 hD8 h8 hO8 hk8 hdB hO
  replace hZ10 := Lib.hid hZ10
  replace hD10 := Lib.hid hD10
  replace hk10 := Lib.hid hk10
  refine htu.mono ?_
  rintro e w11 ⟨rfl, hk11, h11⟩
  have hz1 := hk11.blk _ _ _ hZ10.out (by decide) (by decide) (by decide) (by decide)
  have hd1 := hk11.blk _ _ _ hD10.out (by decide) (by decide) (by decide) (by decide)
  have hkk := hk10.out.trans hk11
  have hzlt := hZ10.out.lt
  clear hZ10 hD10 hk10 hk11 htu
  replace hz1 := Lib.hid hz1
  replace hd1 := Lib.hid hd1
  replace hkk := Lib.hid hkk
  replace h11 := Lib.hid h11
  go_wp2_with (first
    | (refine wpList_load_blk rfl 115 (.tmp 10) rfl db rfl 115 (ds.map B) hd1.out _ Tryz.underlying115 rfl (digSz hdl.out) ?_)
    | (refine wpList_store_blk rfl 115 (.tmp 8) (.tmp 62) rfl zb (ds.map B) rfl rfl 115 zero32 hz1.out (by simp [hdl.out, zero32]) (digSz hdl.out) (all_B _) ?_)
    | fail)
  have ht12 : Touch [zb] w11 (w11.setRow zb (ds.map B).toArray) := Touch.setRow (by simp) _
  have hz12 : Blk (w11.setRow zb (ds.map B).toArray) zb 115 (ds.map B) := hz1.out.setRow_same _
  refine ret_blk2 rfl zb 115 (ds.map B) _ (.int .i64 0) rfl rfl hz12 Tryz.underlying115 rfl (digSz hdl.out) rfl ⟨by rw [hds.out], ⟨fun k t' cs hB a1 a2 a3 a4 => (hkk.out.blk k t' cs hB a1 a2 a3 a4).touch ht12 (fun hm => ?_), fun k o ho hm => mark_touch ht12 (hkk.out.mark k o ho hm) (by have := lt_of_heap ho; simp; omega)⟩, (h11.out.touch ht12 (fun i hi => ?_)).lower (by omega) (by omega)⟩
  · have := hB.lt
    obtain rfl : k = zb := by simpa using hm
    omega
  · obtain rfl : i = zb := by simpa using hi
    exact ⟨by omega, hzlt, _, _, hz1.out, by decide, by decide, by decide, by decide, by decide, by decide, by decide⟩
end Go.Proofs.YtamdhaoglapnnaaGreatDoor
