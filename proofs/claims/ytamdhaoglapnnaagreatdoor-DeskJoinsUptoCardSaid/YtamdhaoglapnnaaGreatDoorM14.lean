/- The library's calls at the disk: slices.Sorted of maps.Keys, slices.Clone. -/
import Derived.Test.YtamdhaoglapnnaaGreatDoorM13
import Derived.Deep.RegionHeld3
section
namespace Go.Proofs.YtamdhaoglapnnaaGreatDoor
open Go.RowKit Go.Maps Go.Sort Go.Shelf

/-- slices.Sort at this program, at the fence that asks nothing. -/
theorem sortsF (m : Nat) : AnyZ.SortsIn Tryz.prog Tryz.sorted29_ren Fence.wide m :=
  ⟨fun blk off cap ss W hH hblk hsz => callsIn_wide.2 (AnyM.slices_Sort_string Tryz.sort38 blk off cap ss W hH hblk hsz),
   fun p cap W => callsIn_wide.2 (AnyM.slices_Sort_string_none Tryz.sort38 p cap W)⟩
theorem keys_any (mb : Option Nat) (W : World) : Calls Tryz.prog 159 #[.map mb] W fun e w' =>
    e = .returned (.func (.func 224) #[] #[.pointer (some ⟨W.heap.size, 0, none⟩)]) ∧ w' = W.alloc (.cells #[.map mb] 87) :=
  callsIn_wide.1 (AnyZ.keys_in Tryz.keys30 Fence.wide 5 trivial rfl mb W)
set_option maxHeartbeats 1000000 in
theorem sorted_any (w : World) (b : Nat) (D : DM) (h : MapIs w b D) (hD : fLen D ≤ 4398046511104) :
    Calls Tryz.prog 158 #[.func (.func 224) #[] #[.pointer (some ⟨w.heap.size, 0, none⟩)]] (w.alloc (.cells #[.map (some b)] 87)) fun e w' =>
      ∃ v, e = .returned v ∧ w'.ownsRow w.heap.size 9 1 v (fNames D).length ((fNames D).map strV) ∧ Below w.heap.size w w' := by
  have hbl := h.lt
  have hseq : SeqGives Fence.wide 2 Tryz.prog 224 #[.pointer (some ⟨w.heap.size, 0, none⟩)] encStr (fun ss => ss.Perm (strKeys D)) (Maps.size D) (w.alloc (.cells #[.map (some b)] 87)) :=
    AnyZ.keys_gives (ρ := Tryz.keys30_ren) { Tryz.keys30 with } Fence.wide _ trivial rfl (by omega) w.heap.size b (fLen D) D _ (by simp) (by simp) (by
      obtain ⟨es, clock, hb, Ft, hs, hD⟩ := h
      exact ⟨es, clock, (Below.heap_alloc _ _ b hbl).trans hb, Ft, hs, hD⟩)
  have hs : Maps.size D = fLen D := rfl
  have hc := AnyZ.sorted_in Tryz.sorted29 Fence.wide 5 trivial trivial trivial trivial rfl (by omega) (sortsF _) (enters_of Tryz.func223 (by kernel_rfl) rfl) 224 #[.pointer (some ⟨w.heap.size, 0, none⟩)] trivial
    (enters_of Tryz.func224 (by kernel_rfl) rfl) _ _ (by rw [hs]; unfold maxLen; omega) (by rw [hs]; omega) _ hseq
  refine (callsIn_wide.1 hc).mono ?_
  rintro e w' ⟨v, ss, he, hp, hrow, _, hb⟩
  have e1 : ss.mergeSort leB = fNames D := mergeSort_of_perm hp
  have e2 : ss.length = (fNames D).length := by rw [hp.length_eq, (names_perm D).length_eq]
  refine ⟨v, he, ?_, ((Below.refl _ w).alloc (Nat.le_refl _) _).trans (hb.mono (by simp))⟩
  have hrow' : w'.ownsRow (w.alloc (.cells #[.map (some b)] 87)).heap.size 9 1 v ss.length ((ss.mergeSort leB).map encStr) := hrow
  rw [e1, e2] at hrow'
  obtain ⟨h1, h2⟩ := hrow'
  refine ⟨h1, ?_⟩
  rcases h2 with h2 | ⟨g, cap, cur, hv, hg, r⟩
  · exact .inl h2
  · exact .inr ⟨g, cap, cur, hv, by simp at hg; omega, r⟩

theorem sclone_any (w : World) (v : Value) (n : Nat) (vs : List Value) (h : w.ownsRow 0 145 1 v n vs) (h1 : ∀ u ∈ vs, u.oneCell' = true) (hn : n ≤ 4398046511104) :
    Calls Tryz.prog 84 #[v] w fun e w' => ∃ v', e = .returned v' ∧ w'.ownsRow w.heap.size 145 1 v' n vs ∧ Below w.heap.size w w' := by
  rcases h.2 with ⟨rfl, rfl⟩ | ⟨g, cap, cur, rfl, hb, hg, hc1, hc2, hc3, hc4⟩
  · have hv : vs = [] := List.eq_nil_of_length_eq_zero (by simpa using h.1)
    subst hv
    have hc := AnyE.slices_Clone_nil Tryz.cloneS 0 0 w
    change Calls Tryz.prog 84 _ _ _ at hc
    exact hc.mono fun e w' ⟨he, hw⟩ => ⟨_, he, ⟨rfl, .inl ⟨rfl, rfl⟩⟩, by rw [hw]; exact Below.refl _ _⟩
  · cases hq : Tryz.prog.info? 145 with
    | none => have := callInfo; simp [hq] at this
    | some i =>
      have hii := callInfo
      simp only [hq, Option.map_some, Option.some.injEq, Prod.mk.injEq] at hii
      obtain ⟨hz, hsize, hby⟩ := hii
      have hc := AnyE.slices_Clone Tryz.cloneS i (.agg #[.nilFunc]) 1 8 hq hz hsize hby (by simp [Value.cells]) (by omega) Tryz.sizeOf145 g 0 n cap vs w (by simpa using h.1) (by unfold maxLen; omega) (by omega)
        (fun j u hu => by have := h.cells (g := g) rfl j u hu; rw [addr_add] at this; exact this) h1
      change Calls Tryz.prog 84 _ _ _ at hc
      exact hc.mono fun e w' ⟨v', he, ho, _, hb⟩ => ⟨v', he, ho, hb⟩
end Go.Proofs.YtamdhaoglapnnaaGreatDoor
end
section
/- The walk of Names. -/
namespace Go.Proofs.YtamdhaoglapnnaaGreatDoor
open Go.RowKit Go.Maps Go.Sort

set_option maxHeartbeats 1000000 in
theorem names_off (g bn bs : Nat) (v : Value) (S : DS) (w : World) (h : DiskAt w g bn bs v S) (ho : S.off = true) :
    Calls Tryz.prog 95 #[.pointer (some ⟨g, 0, none⟩)] w fun e w' => e = .returned (.slice none 0 0) ∧ w = w' := by
  have hpw := Lib.hid (power_read g bn bs v S w h)
  have hp : Hid (S.powR = 15) := Lib.hid (by simp [DS.powR, ho])
  clear h ho
  go_enter Tryz.func95, Tryz.ntmps95
  go_wp2_with fail
  refine hpw.out.mono ?_
  rintro e w1 ⟨rfl, rfl⟩
  rw [hp.out]
  go_wp2
  go_ret
  exact ⟨rfl, rfl⟩
set_option maxHeartbeats 1000000 in
theorem names_any (g bn bs : Nat) (v : Value) (S : DS) (w : World) (h : DiskAt w g bn bs v S) (ho : S.off = false) (hl : fLen S.now ≤ 4398046511104) :
    Calls Tryz.prog 95 #[.pointer (some ⟨g, 0, none⟩)] w fun e w' => ∃ v, e = .returned v ∧ w'.ownsRow w.heap.size 9 1 v (fNames S.now).length ((fNames S.now).map strV) ∧ Below w.heap.size w w' := by
  have hpw := Lib.hid (power_read g bn bs v S w h)
  have hp : Hid (S.powR = 0) := Lib.hid (by simp [DS.powR, ho])
  have c0 : w.cell? ⟨g, 0, none⟩ = some (.map (some bn)) := by rw [h.blk.cell]; rfl
  have hk := Lib.hid (keys_any (some bn) w)
  have hs := Lib.hid (sorted_any w bn S.now h.now hl)
  clear h ho hl
  go_enter Tryz.func95, Tryz.ntmps95
  go_wp2_with fail
  refine hpw.out.mono ?_
  rintro e w1 ⟨rfl, rfl⟩
  rw [hp.out]
  go_wp2_with fail
  refine hk.out.mono ?_
  rintro e w1 ⟨rfl, rfl⟩
  go_wp2_with fail
  refine hs.out.mono ?_
  rintro e w1 ⟨v', rfl, hrow, hb⟩
  replace hrow := Lib.hid hrow
  replace hb := Lib.hid hb
  go_wp2
  go_ret
  exact ⟨_, rfl, hrow.out, hb.out⟩
end Go.Proofs.YtamdhaoglapnnaaGreatDoor
end
section
/- The walk of Copy. -/
namespace Go.Proofs.YtamdhaoglapnnaaGreatDoor
open Go.RowKit Go.Maps Go.Sort

def zeroD : List Value := [.map none, .map none, .slice none 0 0, .int .i64 0, .int .i64 0, .bool false]
theorem diskSz : (Tryz.prog.info? 90).map (·.size) = some 6 := by kernel_rfl
def CopyTo (w : World) (S : DS) (e : Ending) (w' : World) : Prop := ∃ g L, e = .returned (.pointer (some ⟨g, 0, none⟩)) ∧ DiskIs w' L g S ∧ (∀ i ∈ L, w.heap.size ≤ i) ∧ Below w.heap.size w w'
set_option maxHeartbeats 2000000 in
theorem dcopy_any (g bn bs : Nat) (v : Value) (S : DS) (w : World) (h : DiskAt w g bn bs v S) (hp : S.pend.length ≤ 4398046511104) : Calls Tryz.prog 53 #[.pointer (some ⟨g, 0, none⟩)] w (CopyTo w S) := by
  have hm := Lib.hid (made_any g bn bs v S w h)
  obtain ⟨vs, hrow, hops⟩ := h.row
  obtain ⟨VA, vc, rfl, hvc1, hvc2⟩ := own_form hrow
  have hone : Hid (∀ u ∈ vs, u.oneCell' = true) := Lib.hid (fun u hu => by
    obtain ⟨i, hi, rfl⟩ := List.getElem_of_mem hu
    have hi2 : i < S.pend.length := by have := hops.1; omega
    exact (hops.2 i _ _ (List.getElem?_eq_getElem hi2) (List.getElem?_eq_getElem hi)).one)
  have hB := Lib.hid h.blk
  have hlen : Hid ((dCells bn bs (.slice VA S.pend.length vc) S).length = 6) := Lib.hid rfl
  have h1c : Hid (∀ u ∈ dCells bn bs (.slice VA S.pend.length vc) S, u.oneCell' = true) := Lib.hid (by simp [dCells, Value.oneCell'])
  replace hrow := Lib.hid hrow
  replace hops := Lib.hid hops
  replace h := Lib.hid h
  go_enter Tryz.func53, Tryz.ntmps53
  go_wp2_with fail
  refine hm.out.mono ?_
  rintro e w1 ⟨rfl, rfl⟩
  obtain ⟨cs, hcs⟩ : ∃ cs, cs = dCells bn bs (.slice VA S.pend.length vc) S := ⟨_, rfl⟩
  rw [← hcs] at hB hlen h1c
  replace hcs := Lib.hid hcs
  go_wp2_with (first
    | (refine wpList_load_blk rfl 90 (.tmp 8) rfl g rfl 90 cs hB.out _ Tryz.underlying90 rfl (by rw [hlen.out]; exact diskSz) ?_)
    | (refine wpList_store_blk rfl 90 (.tmp 3) (.tmp 9) rfl w.heap.size cs rfl rfl 90 zeroD (Blk.new_at rfl) (by rw [hlen.out]; rfl) (by rw [hlen.out]; exact diskSz) h1c.out ?_))
  go_frame
  have hb1 : Below w.heap.size w ((w.alloc (.cells zeroD.toArray 90)).setRow w.heap.size cs.toArray) := below_setRow ((Below.refl _ _).alloc (Nat.le_refl _) _) (Nat.le_refl _) _
  have hC1 : Blk ((w.alloc (.cells zeroD.toArray 90)).setRow w.heap.size cs.toArray) w.heap.size 90 cs := (Blk.new_at rfl).setRow_same _
  change Code.wp Tryz.prog _ _ _ ((w.alloc (.cells zeroD.toArray 90)).setRow w.heap.size cs.toArray)
  generalize (w.alloc (.cells zeroD.toArray 90)).setRow w.heap.size cs.toArray = w1 at hb1 hC1 ⊢
  have hd1 := h.out.below hb1
  have c0 : w1.cell? ⟨g, 0, none⟩ = some (.map (some bn)) := by rw [hd1.blk.cell]; rfl
  have c1 : w1.cell? ⟨g, 1, none⟩ = some (.map (some bs)) := by rw [hd1.blk.cell]; rfl
  have c2 : w1.cell? ⟨g, 2, none⟩ = some (.slice VA S.pend.length vc) := by rw [hd1.blk.cell]; rfl
  have hgl : g < w1.heap.size := hd1.blk.lt
  have hcl : w.heap.size < w1.heap.size := hC1.lt
  obtain ⟨gc, hgc⟩ : ∃ gc, gc = w.heap.size := ⟨_, rfl⟩
  rw [← hgc] at hC1 hcl ⊢
  replace hgc := Lib.hid hgc
  replace hd1 := Lib.hid hd1
  replace hb1 := Lib.hid hb1
  replace hC1 := Lib.hid hC1
  have hgne : g ≠ gc := by rw [hgc.out]; have := h.out.blk.lt; omega
  have hgne' : gc ≠ g := fun e => hgne e.symm
  have hMn : Hid (MapIs w1.drew bn S.now) := Lib.hid hd1.out.now
  have hMs : Hid (∀ w2, Below w1.drew.heap.size w1.drew w2 → MapIs w2 bs S.sure) := Lib.hid (fun w2 hb => hd1.out.sure.block (hb.block bs hd1.out.sure.lt))
  have hRo : Hid (∀ w2, Below w1.drew.heap.size w1.drew w2 → w2.ownsRow 0 145 1 (.slice VA S.pend.length vc) S.pend.length vs) := Lib.hid (fun w2 hb => own_touch (L := []) (own_touch (L := []) hrow.out (Touch.ofBelow hb1.out) (by simp)) ((Touch.drewN 1).trans (Touch.ofBelow (L := []) hb) (by simp)) (by simp))
  have hcc : Hid (∀ w2, Below w1.drew.heap.size w1.drew w2 → w2.cell? ⟨g, 0, none⟩ = some (.map (some bn)) ∧ w2.cell? ⟨g, 1, none⟩ = some (.map (some bs)) ∧ w2.cell? ⟨g, 2, none⟩ = some (.slice VA S.pend.length vc)) := Lib.hid (fun w2 hb => ⟨(hb.cell (p := ⟨g, 0, none⟩) hgl).trans c0, (hb.cell (p := ⟨g, 1, none⟩) hgl).trans c1, (hb.cell (p := ⟨g, 2, none⟩) hgl).trans c2⟩)
  have hst : Hid (∀ w2, Below w1.drew.heap.size w1.drew w2 → (w2.cell? ⟨gc, 0, none⟩ = some (.map (some bn)) ∧ w2.cell? ⟨gc, 1, none⟩ = some (.map (some bs)) ∧ w2.cell? ⟨gc, 2, none⟩ = some (.slice VA S.pend.length vc)) ∧ w2.frozen? ⟨gc, 0, none⟩ = false ∧ w2.frozen? ⟨gc, 1, none⟩ = false ∧ w2.frozen? ⟨gc, 2, none⟩ = false) := Lib.hid (fun w2 hb => by
    have hC2 : Blk w2 gc 90 cs := (hb.block gc hcl).trans hC1.out
    refine ⟨⟨?_, ?_, ?_⟩, hC2.frozen 0, hC2.frozen 1, hC2.frozen 2⟩
    · rw [hC2.cell, hcs.out]; rfl
    · rw [hC2.cell, hcs.out]; rfl
    · rw [hC2.cell, hcs.out]; rfl)
  go_region_held3 (fun w' => w'.cell? ⟨g, 0, none⟩ = some (.map (some bn)) ∧ w'.cell? ⟨g, 1, none⟩ = some (.map (some bs)) ∧ w'.cell? ⟨g, 2, none⟩ = some (.slice VA S.pend.length vc)) (first | exact hcc.out _ hb4.out | exact hcc.out _ hb3.out | exact hcc.out _ hb2.out | go_keep)
    (first
      | (go_at_call 83; with_reducible refine (mclone_any _ bn _ hMn.out).mono ?_; rintro e w2 ⟨rfl, hm2, hb2⟩; replace hm2 := Lib.hid hm2; replace hb2 := Lib.hid hb2)
      | (go_at_call 83; with_reducible refine (mclone_any _ bs _ (hMs.out _ hb2.out)).mono ?_; rintro e w3 ⟨rfl, hm3, hb3'⟩; have hb3 := Lib.hid (hb2.out.trans (hb3'.mono hb2.out.size)); replace hm3 := Lib.hid hm3; replace hb3' := Lib.hid hb3')
      | (go_at_call 84; with_reducible refine (sclone_any _ _ _ _ (hRo.out _ hb3.out) hone.out hp).mono ?_; rintro e w4 ⟨v4, rfl, hr4, hb4'⟩; have hb4 := Lib.hid (hb3.out.trans (hb4'.mono hb3.out.size)); obtain ⟨VA4, vc4, rfl, _, _⟩ := own_form hr4; obtain ⟨⟨y0, y1, y2⟩, z0, z1, z2⟩ := hst.out _ hb4.out; obtain ⟨d0, d1, d2⟩ := hcc.out _ hb4.out; replace hr4 := Lib.hid hr4; replace hb4' := Lib.hid hb4'))
  clear y0 y1 y2 z0 z1 z2 d0 d1 d2 c0 c1 c2
  go_wp2
  go_ret
  have s1 : w1.heap.size < w2.heap.size := hm2.out.lt
  have s2 : w2.heap.size < w3.heap.size := hm3.out.lt
  have s3 := hb4'.out.size
  have s4 := hb1.out.size
  have hC4 : Blk w4 gc 90 (dCells bn bs (.slice VA S.pend.length vc) S) := by
    have := (hb4.out.block gc hcl).trans hC1.out
    rw [hcs.out] at this
    exact this
  have ht5 : Touch [gc] w4 (((w4.setCell ⟨gc, 0, none⟩ (.map (some w1.heap.size))).setCell ⟨gc, 1, none⟩ (.map (some w2.heap.size))).setCell ⟨gc, 2, none⟩ (.slice VA4 S.pend.length vc4)) :=
    ((Touch.setCell _ (by simp)).trans (Touch.setCell _ (by simp)) (fun i hi => .inl hi)).trans (Touch.setCell _ (by simp)) (fun i hi => .inl hi)
  have hmn : MapIs w2 w1.heap.size S.now := hm2.out
  have hmn4 : MapIs w4 w1.heap.size S.now := (hmn.block (hb3'.out.block _ (by omega))).block (hb4'.out.block _ (by omega))
  have hms4 : MapIs w4 w2.heap.size S.sure := hm3.out.block (hb4'.out.block _ (by omega))
  have hbw4 : Below w.heap.size w w4 := hb1.out.trans ((show Below w1.heap.size w1 w4 from ⟨hb4.out.os, hb4.out.tape, hb4.out.output, hb4.out.size, hb4.out.block⟩).mono hb1.out.size)
  have hops4 : OpsAre w4 S.pend vs := hops.out.touch (L := []) (Touch.ofBelow hbw4) (by simp [NoBox])
  have hr4' : w4.ownsRow 0 145 1 (.slice VA4 S.pend.length vc4) S.pend.length vs := by
    obtain ⟨e1, e2⟩ := hr4.out
    refine ⟨e1, ?_⟩
    rcases e2 with e2 | ⟨gx, cap, cur, e3, _, e4⟩
    · exact .inl e2
    · exact .inr ⟨gx, cap, cur, e3, Nat.zero_le _, e4⟩
  have hfr : ∀ b, (Value.slice VA4 S.pend.length vc4).ownBlock = some b → w3.heap.size ≤ b := fun b hb => (hr4.out.lt b hb).1
  refine ⟨gc, foot gc w1.heap.size w2.heap.size (.slice VA4 S.pend.length vc4), rfl, ⟨_, _, _, ⟨((hC4.set_ 0 _).set_ 1 _).set_ 2 _, hmn4.touch ht5 (by simp; omega), hms4.touch ht5 (by simp; omega), by omega, vs, own_touch hr4' ht5 (fun b hb => by have := hfr b hb; simp; omega), hops4.touch ht5 (fun i hi cs hc => ?_)⟩, rfl⟩, ?_, ?_⟩
  · have : i = gc := by simpa using hi
    subst this
    exact hC4.ne_ hc (by decide) rfl
  · intro i hi
    have hgc' := hgc.out
    rcases DiskAt.mem_foot hi with rfl | rfl | rfl | e
    · omega
    · omega
    · omega
    · have := hfr i e
      omega
  · exact hbw4.trans (ht5.below (Nat.le_trans (by omega) hbw4.size) (fun i hi => by have : i = gc := (by simpa using hi); have := hgc.out; omega))
end Go.Proofs.YtamdhaoglapnnaaGreatDoor
end
