/- The walk of Copy. -/
import Derived.Test.YtbfniokghocfiaaDkF
import Derived.Deep.RegionHeld3
namespace Go.Proofs.Ytbfniokghocfiaa
open Go.RowKit Go.Maps Go.Sort

def zeroD : List Value := [.map none, .map none, .slice none 0 0, .int .i64 0, .int .i64 0, .bool false]
theorem diskSz : (Try.prog.info? 58).map (·.size) = some 6 := by kernel_rfl
def CopyTo (w : World) (S : DS) (e : Ending) (w' : World) : Prop := ∃ g L, e = .returned (.pointer (some ⟨g, 0, none⟩)) ∧ DiskIs w' L g S ∧ (∀ i ∈ L, w.heap.size ≤ i) ∧ Below w.heap.size w w'
set_option maxHeartbeats 2000000 in
theorem dcopy_any (g bn bs : Nat) (v : Value) (S : DS) (w : World) (h : DiskAt w g bn bs v S) (hp : S.pend.length ≤ 4398046511104) : Calls Try.prog 20 #[.pointer (some ⟨g, 0, none⟩)] w (CopyTo w S) := by
  have hm := Lib.hid (made_any g bn bs v S w h)
  obtain ⟨vs, hrow, hops⟩ := h.row
  obtain ⟨VA, vc, rfl, hvc1, hvc2⟩ := own_form hrow
  have hone : Hid (∀ u ∈ vs, u.oneCell' = true) := Lib.hid (fun u hu => by
    obtain ⟨i, hi, rfl⟩ := List.getElem_of_mem hu
    have hi2 : i < S.pend.length := by have := hops.1; omega
    exact (hops.2 i _ _ (List.getElem?_eq_getElem hi2) (List.getElem?_eq_getElem hi)).one)
  have hB := Lib.hid h.blk
  have hlen : Hid ((dCells bn bs (.slice VA S.pend.length vc) S).length = 6) := Lib.hid rfl
  have h1c : Hid (∀ u ∈ dCells bn bs (.slice VA S.pend.length vc) S, u.oneCell' = true) := Lib.hid (by simp [dCells, Value.oneCell'])
  replace hrow := Lib.hid hrow
  replace hops := Lib.hid hops
  replace h := Lib.hid h
  go_enter Try.func20, Try.ntmps20
  go_wp2_with fail
  refine hm.out.mono ?_
  rintro e w1 ⟨rfl, rfl⟩
  obtain ⟨cs, hcs⟩ : ∃ cs, cs = dCells bn bs (.slice VA S.pend.length vc) S := ⟨_, rfl⟩
  rw [← hcs] at hB hlen h1c
  replace hcs := Lib.hid hcs
  go_wp2_with (first
    | (refine wpList_load_blk rfl 58 (.tmp 8) rfl g rfl 58 cs hB.out _ Try.underlying58 rfl (by rw [hlen.out]; exact diskSz) ?_)
    | (refine wpList_store_blk rfl 58 (.tmp 3) (.tmp 9) rfl w.heap.size cs rfl rfl 58 zeroD (Blk.new_at rfl) (by rw [hlen.out]; rfl) (by rw [hlen.out]; exact diskSz) h1c.out ?_))
  go_frame
  have hb1 : Below w.heap.size w ((w.alloc (.cells zeroD.toArray 58)).setRow w.heap.size cs.toArray) := below_setRow ((Below.refl _ _).alloc (Nat.le_refl _) _) (Nat.le_refl _) _
  have hC1 : Blk ((w.alloc (.cells zeroD.toArray 58)).setRow w.heap.size cs.toArray) w.heap.size 58 cs := (Blk.new_at rfl).setRow_same _
  change Code.wp Try.prog _ _ _ ((w.alloc (.cells zeroD.toArray 58)).setRow w.heap.size cs.toArray)
  generalize (w.alloc (.cells zeroD.toArray 58)).setRow w.heap.size cs.toArray = w1 at hb1 hC1 ⊢
  have hd1 := h.out.below hb1
  have c0 : w1.cell? ⟨g, 0, none⟩ = some (.map (some bn)) := by rw [hd1.blk.cell]; rfl
  have c1 : w1.cell? ⟨g, 1, none⟩ = some (.map (some bs)) := by rw [hd1.blk.cell]; rfl
  have c2 : w1.cell? ⟨g, 2, none⟩ = some (.slice VA S.pend.length vc) := by rw [hd1.blk.cell]; rfl
  have hgl : g < w1.heap.size := hd1.blk.lt
  have hcl : w.heap.size < w1.heap.size := hC1.lt
  obtain ⟨gc, hgc⟩ : ∃ gc, gc = w.heap.size := ⟨_, rfl⟩
  rw [← hgc] at hC1 hcl ⊢
  replace hgc := Lib.hid hgc
  replace hd1 := Lib.hid hd1
  replace hb1 := Lib.hid hb1
  replace hC1 := Lib.hid hC1
  have hgne : g ≠ gc := by rw [hgc.out]; have := h.out.blk.lt; omega
  have hgne' : gc ≠ g := fun e => hgne e.symm
  have hMn : Hid (MapIs w1.drew bn S.now) := Lib.hid hd1.out.now
  have hMs : Hid (∀ w2, Below w1.drew.heap.size w1.drew w2 → MapIs w2 bs S.sure) := Lib.hid (fun w2 hb => hd1.out.sure.block (hb.block bs hd1.out.sure.lt))
  have hRo : Hid (∀ w2, Below w1.drew.heap.size w1.drew w2 → w2.ownsRow 0 61 1 (.slice VA S.pend.length vc) S.pend.length vs) := Lib.hid (fun w2 hb => own_touch (L := []) (own_touch (L := []) hrow.out (Touch.ofBelow hb1.out) (by simp)) ((Touch.drewN 1).trans (Touch.ofBelow (L := []) hb) (by simp)) (by simp))
  have hcc : Hid (∀ w2, Below w1.drew.heap.size w1.drew w2 → w2.cell? ⟨g, 0, none⟩ = some (.map (some bn)) ∧ w2.cell? ⟨g, 1, none⟩ = some (.map (some bs)) ∧ w2.cell? ⟨g, 2, none⟩ = some (.slice VA S.pend.length vc)) := Lib.hid (fun w2 hb => ⟨(hb.cell (p := ⟨g, 0, none⟩) hgl).trans c0, (hb.cell (p := ⟨g, 1, none⟩) hgl).trans c1, (hb.cell (p := ⟨g, 2, none⟩) hgl).trans c2⟩)
  have hst : Hid (∀ w2, Below w1.drew.heap.size w1.drew w2 → (w2.cell? ⟨gc, 0, none⟩ = some (.map (some bn)) ∧ w2.cell? ⟨gc, 1, none⟩ = some (.map (some bs)) ∧ w2.cell? ⟨gc, 2, none⟩ = some (.slice VA S.pend.length vc)) ∧ w2.frozen? ⟨gc, 0, none⟩ = false ∧ w2.frozen? ⟨gc, 1, none⟩ = false ∧ w2.frozen? ⟨gc, 2, none⟩ = false) := Lib.hid (fun w2 hb => by
    have hC2 : Blk w2 gc 58 cs := (hb.block gc hcl).trans hC1.out
    refine ⟨⟨?_, ?_, ?_⟩, hC2.frozen 0, hC2.frozen 1, hC2.frozen 2⟩
    · rw [hC2.cell, hcs.out]; rfl
    · rw [hC2.cell, hcs.out]; rfl
    · rw [hC2.cell, hcs.out]; rfl)
  go_region_held3 (fun w' => w'.cell? ⟨g, 0, none⟩ = some (.map (some bn)) ∧ w'.cell? ⟨g, 1, none⟩ = some (.map (some bs)) ∧ w'.cell? ⟨g, 2, none⟩ = some (.slice VA S.pend.length vc)) (first | exact hcc.out _ hb4.out | exact hcc.out _ hb3.out | exact hcc.out _ hb2.out | go_keep)
    (first
      | (go_at_call 23; with_reducible refine (mclone_any _ bn _ hMn.out).mono ?_; rintro e w2 ⟨rfl, hm2, hb2⟩; replace hm2 := Lib.hid hm2; replace hb2 := Lib.hid hb2)
      | (go_at_call 23; with_reducible refine (mclone_any _ bs _ (hMs.out _ hb2.out)).mono ?_; rintro e w3 ⟨rfl, hm3, hb3'⟩; have hb3 := Lib.hid (hb2.out.trans (hb3'.mono hb2.out.size)); replace hm3 := Lib.hid hm3; replace hb3' := Lib.hid hb3')
      | (go_at_call 31; with_reducible refine (sclone_any _ _ _ _ (hRo.out _ hb3.out) hone.out hp).mono ?_; rintro e w4 ⟨v4, rfl, hr4, hb4'⟩; have hb4 := Lib.hid (hb3.out.trans (hb4'.mono hb3.out.size)); obtain ⟨VA4, vc4, rfl, _, _⟩ := own_form hr4; obtain ⟨⟨y0, y1, y2⟩, z0, z1, z2⟩ := hst.out _ hb4.out; obtain ⟨d0, d1, d2⟩ := hcc.out _ hb4.out; replace hr4 := Lib.hid hr4; replace hb4' := Lib.hid hb4'))
  clear y0 y1 y2 z0 z1 z2 d0 d1 d2 c0 c1 c2
  go_wp2
  go_ret
  have s1 : w1.heap.size < w2.heap.size := hm2.out.lt
  have s2 : w2.heap.size < w3.heap.size := hm3.out.lt
  have s3 := hb4'.out.size
  have s4 := hb1.out.size
  have hC4 : Blk w4 gc 58 (dCells bn bs (.slice VA S.pend.length vc) S) := by
    have := (hb4.out.block gc hcl).trans hC1.out
    rw [hcs.out] at this
    exact this
  have ht5 : Touch [gc] w4 (((w4.setCell ⟨gc, 0, none⟩ (.map (some w1.heap.size))).setCell ⟨gc, 1, none⟩ (.map (some w2.heap.size))).setCell ⟨gc, 2, none⟩ (.slice VA4 S.pend.length vc4)) :=
    ((Touch.setCell _ (by simp)).trans (Touch.setCell _ (by simp)) (fun i hi => .inl hi)).trans (Touch.setCell _ (by simp)) (fun i hi => .inl hi)
  have hmn : MapIs w2 w1.heap.size S.now := hm2.out
  have hmn4 : MapIs w4 w1.heap.size S.now := (hmn.block (hb3'.out.block _ (by omega))).block (hb4'.out.block _ (by omega))
  have hms4 : MapIs w4 w2.heap.size S.sure := hm3.out.block (hb4'.out.block _ (by omega))
  have hbw4 : Below w.heap.size w w4 := hb1.out.trans ((show Below w1.heap.size w1 w4 from ⟨hb4.out.os, hb4.out.tape, hb4.out.output, hb4.out.size, hb4.out.block⟩).mono hb1.out.size)
  have hops4 : OpsAre w4 S.pend vs := hops.out.touch (L := []) (Touch.ofBelow hbw4) (by simp [NoBox])
  have hr4' : w4.ownsRow 0 61 1 (.slice VA4 S.pend.length vc4) S.pend.length vs := by
    obtain ⟨e1, e2⟩ := hr4.out
    refine ⟨e1, ?_⟩
    rcases e2 with e2 | ⟨gx, cap, cur, e3, _, e4⟩
    · exact .inl e2
    · exact .inr ⟨gx, cap, cur, e3, Nat.zero_le _, e4⟩
  have hfr : ∀ b, (Value.slice VA4 S.pend.length vc4).ownBlock = some b → w3.heap.size ≤ b := fun b hb => (hr4.out.lt b hb).1
  refine ⟨gc, foot gc w1.heap.size w2.heap.size (.slice VA4 S.pend.length vc4), rfl, ⟨_, _, _, ⟨((hC4.set_ 0 _).set_ 1 _).set_ 2 _, hmn4.touch ht5 (by simp; omega), hms4.touch ht5 (by simp; omega), by omega, vs, own_touch hr4' ht5 (fun b hb => by have := hfr b hb; simp; omega), hops4.touch ht5 (fun i hi cs hc => ?_)⟩, rfl⟩, ?_, ?_⟩
  · have : i = gc := by simpa using hi
    subst this
    exact hC4.ne_ hc (by decide) rfl
  · intro i hi
    have hgc' := hgc.out
    rcases DiskAt.mem_foot hi with rfl | rfl | rfl | e
    · omega
    · omega
    · omega
    · have := hfr i e
      omega
  · exact hbw4.trans (ht5.below (Nat.le_trans (by omega) hbw4.size) (fun i hi => by have : i = gc := (by simpa using hi); have := hgc.out; omega))
end Go.Proofs.Ytbfniokghocfiaa
