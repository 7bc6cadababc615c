/- The walk of DigestBack. -/
import Derived.Test.YtahjfnnmaalnoaaDoorBackS
import Derived.Test.YtahjfnnmaalnoaaDoorParseP
import Derived.Test.YtahjfnnmaalnoaaDoorWalkSorts
namespace Go.Proofs.YtahjfnnmaalnoaaDoor
open Go.RowKit

theorem wpList_eql_dig_g {ops : Array Oper} {rest : List Oper} {o : Oper} {a : Act} {w : World} {Q : Exit → Act → World → Prop} (hw : Region.wanted o (yielded ops a.tmps) = true) (x y : Operand) (yt : TypeId) (ho : o.op = .binOp .eql 24 x y yt)
    (xs ys : List UInt8) (hxe : a.eval x = .agg (xs.map B).toArray) (hye : a.eval y = .agg (ys.map B).toArray) (hx : xs.length = 32) (hy : ys.length = 32) (r : Bool) (hr : (xs == ys) = r)
    (h : wpList Tryd.prog ops Q rest (a.put o.dst (.bool r)) w) : wpList Tryd.prog ops Q (o :: rest) a w :=
  wpList_run_g _ ho hw _ (by rw [exec_eql_dig w ho xs ys hxe hye hx hy, hr]) h

set_option maxRecDepth 100000 in
set_option maxHeartbeats 2000000 in
theorem back_any (d l : List UInt8) (hd : d.length = 32) (w : World) (hK : KeysIn w) :
    Calls Tryd.prog 11 #[.agg (d.map B).toArray, .string ⟨l.toArray⟩] w fun e w' => e = .returned (.bool true) ∧ Below w.heap.size w w' := by
  have hz := (zero_of_info zeros32).1
  have hsd : (Tryd.prog.info? 24).map (·.size) = some (d.map B).length := by rw [List.length_map, hd]; kernel_rfl
  have hzd : zero32.length = (d.map B).length := by rw [List.length_map, hd]; rfl
  have c1 := fun W => parse_any (hexOf d) W
  rw [(pd_hexOf d hd).1, (pd_hexOf d hd).2] at c1
  have ch := fun W => hex_any d hd W
  have hhl : (hexOf d).length = 64 := by rw [hexOf_length, hd]
  have hhs : (⟨(hexOf d).toArray⟩ : ByteArray).size = 64 := by simp [ByteArray.size, hhl]
  obtain ⟨hx, hhx⟩ : ∃ hx, hx = hexOf d := ⟨_, rfl⟩
  rw [← hhx] at c1 ch hhs hhl
  clear hhx
  obtain ⟨q, hq⟩ : ∃ q, q = pd l := ⟨_, rfl⟩
  have hq32 : q.length = 32 := by rw [hq]; exact pd_length l
  have hsq : (Tryd.prog.info? 24).map (·.size) = some (q.map B).length := by rw [List.length_map, hq32]; kernel_rfl
  have hzl : zero32.length = (q.map B).length := by rw [List.length_map, hq32]; rfl
  have c2 := fun W => parse_any l W
  have cq : pok l = true → ∀ W, Calls Tryd.prog 15 #[.agg (q.map B).toArray] W fun e w' => e = .returned (.string ⟨l.toArray⟩) ∧ Below W.heap.size W w' := fun hp W => by
    have h := hex_any q hq32 W
    have he : hexOf q = l := by rw [hq]; exact hexOf_pd l hp
    rw [he] at h
    exact h
  rw [← hq] at c2
  clear hq
  obtain ⟨b, hb⟩ : ∃ b, b = pok l := ⟨_, rfl⟩
  rw [← hb] at c2 cq
  clear hb
  replace c1 := Lib.hid c1
  replace c2 := Lib.hid c2
  replace cq := Lib.hid cq
  replace ch := Lib.hid ch
  replace hsd := Lib.hid hsd
  replace hsq := Lib.hid hsq
  replace hzl := Lib.hid hzl
  replace hzd := Lib.hid hzd
  replace hq32 := Lib.hid hq32
  replace hd := Lib.hid hd
  go_enter Tryd.func11, Tryd.ntmps11
  go_wp2_with (refine wpList_load_blk rfl 24 (.tmp 2) rfl w.heap.size rfl 24 (d.map B) (Blk.new_at rfl) _ Tryd.underlying24 rfl hsd.out ?_)
  refine (ch.out _).mono ?_
  rintro e w1 ⟨rfl, hb1⟩
  have hB0 : Blk w1 w.heap.size 24 (d.map B) := (Blk.new_at (w := w) rfl).below hb1 (by simp)
  have hbl : Below w.heap.size w w1 := ((Below.refl w.heap.size w).alloc (Nat.le_refl _) _).trans (hb1.mono (by simp))
  clear hb1
  go_wp2_with fail
  refine (c1.out _).mono ?_
  rintro e w2 ⟨rfl, hb2⟩
  replace hB0 := hB0.below hb2 hB0.lt
  replace hbl := hbl.trans (hb2.mono hbl.size)
  clear hb2 c1
  go_wp2_with (refine wpList_store_blk rfl 24 (.tmp 5) (.tmp 13) rfl w2.heap.size (d.map B) rfl rfl 24 zero32 (Blk.new_at rfl) hzd.out hsd.out (all_B _) ?_)
  have hB0b : Blk ((w2.alloc (.cells zero32.toArray 24)).setRow w2.heap.size (d.map B).toArray) w.heap.size 24 (d.map B) := (hB0.alloc _).setRow_far (by have := hB0.lt; omega) _
  have hB1b : Blk ((w2.alloc (.cells zero32.toArray 24)).setRow w2.heap.size (d.map B).toArray) w2.heap.size 24 (d.map B) := (Blk.new_at (cs := zero32) rfl).setRow_same _
  have hbl2 : Below w.heap.size w ((w2.alloc (.cells zero32.toArray 24)).setRow w2.heap.size (d.map B).toArray) := below_setRow (hbl.alloc hbl.size _) hbl.size _
  clear hB0 hbl
  generalize (w2.alloc (.cells zero32.toArray 24)).setRow w2.heap.size (d.map B).toArray = w3 at hB0b hB1b hbl2 ⊢
  refine (c2.out _).mono ?_
  rintro e w4 ⟨rfl, hb4⟩
  replace hB0b := hB0b.below hb4 hB0b.lt
  replace hB1b := hB1b.below hb4 hB1b.lt
  replace hbl2 := hbl2.trans (hb4.mono hbl2.size)
  clear hb4 c2
  generalize w2.heap.size = g1 at hB1b ⊢
  have hB0 : Blk ((w4.alloc (.cells zero32.toArray 24)).setRow w4.heap.size (q.map B).toArray) w.heap.size 24 (d.map B) := (hB0b.alloc _).setRow_far (by have := hB0b.lt; omega) _
  have hB1 : Blk ((w4.alloc (.cells zero32.toArray 24)).setRow w4.heap.size (q.map B).toArray) g1 24 (d.map B) := (hB1b.alloc _).setRow_far (by have := hB1b.lt; omega) _
  have hB2 : Blk ((w4.alloc (.cells zero32.toArray 24)).setRow w4.heap.size (q.map B).toArray) w4.heap.size 24 (q.map B) := (Blk.new_at (cs := zero32) rfl).setRow_same _
  have hbl : Below w.heap.size w ((w4.alloc (.cells zero32.toArray 24)).setRow w4.heap.size (q.map B).toArray) := below_setRow (hbl2.alloc hbl2.size _) hbl2.size _
  clear hB0b hB1b hbl2
  go_wp2_with (first
    | (refine wpList_store_blk rfl 24 (.tmp 7) (.tmp 18) rfl w4.heap.size (q.map B) rfl rfl 24 zero32 (Blk.new_at rfl) hzl.out hsq.out (all_B _) ?_)
    | (refine wpList_load_blk_g rfl 24 (.tmp 5) rfl g1 rfl 24 (d.map B) hB1 _ Tryd.underlying24 rfl hsd.out ?_)
    | (refine wpList_load_blk_g rfl 24 (.tmp 2) rfl w.heap.size rfl 24 (d.map B) hB0 _ Tryd.underlying24 rfl hsd.out ?_)
    | (refine wpList_eql_dig_g rfl (.tmp 22) (.tmp 23) _ rfl d d rfl rfl hd.out hd.out true (by simp) ?_))
  clear hz
  generalize (w4.alloc (.cells zero32.toArray 24)).setRow w4.heap.size (q.map B).toArray = w5 at hB0 hB1 hB2 hbl ⊢
  generalize w4.heap.size = g2 at hB2 ⊢
  refine (ch.out _).mono ?_
  rintro e w6 ⟨rfl, hb6⟩
  replace hB2 := hB2.below hb6 hB2.lt
  replace hbl := hbl.trans (hb6.mono hbl.size)
  clear hb6 hB0 hB1 ch
  cases b with
  | true =>
    go_wp2_with (refine wpList_load_blk_g rfl 24 (.tmp 7) rfl g2 rfl 24 (q.map B) hB2 _ Tryd.underlying24 rfl hsq.out ?_)
    refine (cq.out trivial _).mono ?_
    rintro e w7 ⟨rfl, hb7⟩
    replace hbl := hbl.trans (hb7.mono hbl.size)
    clear hb7 hB2
    go_wp2_with (go_at_call 14; refine (alive_any _ (keys_below hK hbl)).mono ?_; rintro e w8 ⟨rfl, hb8⟩)
    go_ret
    exact ⟨rfl, hbl.trans (hb8.mono hbl.size)⟩
  | false =>
    go_wp2_with (go_at_call 14; refine (alive_any _ (keys_below hK hbl)).mono ?_; rintro e w8 ⟨rfl, hb8⟩)
    go_ret
    exact ⟨rfl, hbl.trans (hb8.mono hbl.size)⟩
end Go.Proofs.YtahjfnnmaalnoaaDoor
