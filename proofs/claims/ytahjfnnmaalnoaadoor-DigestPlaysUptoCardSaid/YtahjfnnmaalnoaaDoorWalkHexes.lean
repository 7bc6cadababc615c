/- The walk of DigestHexes. -/
import Derived.Test.YtahjfnnmaalnoaaDoorRHex
import Derived.Test.YtahjfnnmaalnoaaDoorArrEq
import Derived.Test.YtahjfnnmaalnoaaDoorBelowQ
import Derived.Test.YtahjfnnmaalnoaaDoorAlive
namespace Go.Proofs.YtahjfnnmaalnoaaDoor
open Go.RowKit
section
variable {P : Program}
theorem wpQuiet_run_g {ops : Array Oper} {rest : List Oper} {o : Oper} {a : Act} {C : World → Prop} {Q : Act → Prop} (op : Op) (_ho : o.op = op) (hw : Region.wanted o (yielded ops a.tmps) = true) (v : Value)
    (hrun : ∀ w, C w → (execOp a.eval o).run P w = .ok (.value v) w) (h : wpQuiet P ops C Q rest (a.put o.dst v)) : wpQuiet P ops C Q (o :: rest) a := by
  refine wpQuiet_step fun K hK => ?_
  rw [if_pos hw]
  exact ⟨v, fun w hC => by unfold Oper.quietAt; rw [hrun w hC]; exact ⟨rfl, rfl⟩, hK _ h⟩
theorem wpQuiet_load_g {ops : Array Oper} {rest : List Oper} {op : Oper} {a : Act} {C : World → Prop} {Q : Act → Prop} (ty : TypeId) (x : Operand) (ho : op.op = .load ty x) (hw : Region.wanted op (yielded ops a.tmps) = true)
    (g : Nat) (hx : a.eval x = .pointer (some ⟨g, 0, none⟩)) (t : TypeId) (cs : List Value) (hg : ∀ w, C w → Blk w g t cs) (d : TypeDesc)
    (hu : P.underlying ty = some d) (hd : (match d with | .struct _ | .array _ _ => true | _ => false) = true) (hi : (P.info? ty).map (·.size) = some cs.length)
    (h : wpQuiet P ops C Q rest (a.put op.dst (.agg cs.toArray))) : wpQuiet P ops C Q (op :: rest) a := by
  refine wpQuiet_run_g _ ho hw _ (fun w hw => ?_) h
  simp only [execOp, ho, hx, Instr.loadAt, Instr.sureAddr, Sem.run_bind, Sem.run_pure, Result.andThen_ok, run_loadVar_row w g t ty cs.toArray (0, 0) d (hg w hw) hu hd (by simpa using hi)]
end
theorem wpQuiet_eql_dig {ops : Array Oper} {rest : List Oper} {o : Oper} {a : Act} {C : World → Prop} {Q : Act → Prop} (x y : Operand) (yt : TypeId) (ho : o.op = .binOp .eql 24 x y yt) (hw : Region.wanted o (yielded ops a.tmps) = true)
    (xs ys : List UInt8) (hxe : a.eval x = .agg (xs.map B).toArray) (hye : a.eval y = .agg (ys.map B).toArray) (hx : xs.length = 32) (hy : ys.length = 32) (r : Bool) (hr : (xs == ys) = r)
    (h : wpQuiet Tryd.prog ops C Q rest (a.put o.dst (.bool r))) : wpQuiet Tryd.prog ops C Q (o :: rest) a :=
  wpQuiet_run_g _ ho hw _ (fun w _ => by rw [exec_eql_dig w ho xs ys hxe hye hx hy, hr]) h

set_option maxRecDepth 100000 in
set_option maxHeartbeats 2000000 in
theorem hexes_any (d l : List UInt8) (hd : d.length = 32) (w : World) (hK : KeysIn w) :
    Calls Tryd.prog 10 #[.agg (d.map B).toArray, .string ⟨l.toArray⟩] w fun e w' => e = .returned (.bool true) ∧ Below w.heap.size w w' := by
  have hz := (zero_of_info zeros32).1
  have hsd : (Tryd.prog.info? 24).map (·.size) = some (d.map B).length := by rw [List.length_map, hd]; kernel_rfl
  obtain ⟨q, hq⟩ : ∃ q, q = pd l := ⟨_, rfl⟩
  obtain ⟨b, hb⟩ : ∃ b, b = pok l := ⟨_, rfl⟩
  have hq32 : q.length = 32 := by rw [hq]; exact pd_length l
  have hsq : (Tryd.prog.info? 24).map (·.size) = some (q.map B).length := by rw [List.length_map, hq32]; kernel_rfl
  have hzl : zero32.length = (q.map B).length := by rw [List.length_map, hq32]; rfl
  have c1 := parse_any l
  have c2 := rparse_any l
  rw [← hq, ← hb] at c1 c2
  clear hq hb
  replace c1 := Lib.hid c1
  replace c2 := Lib.hid c2
  replace hsd := Lib.hid hsd
  replace hsq := Lib.hid hsq
  replace hzl := Lib.hid hzl
  replace hq32 := Lib.hid hq32
  replace hd := Lib.hid hd
  go_enter Tryd.func10, Tryd.ntmps10
  go_wp2_with fail
  refine (c1.out _).mono ?_
  rintro e w1 ⟨rfl, hb1⟩
  have hB0 : Blk w1 w.heap.size 24 (d.map B) := (Blk.new_at (w := w) rfl).below hb1 (by simp)
  have hbl1 : Below w.heap.size w w1 := ((Below.refl w.heap.size w).alloc (Nat.le_refl _) _).trans (hb1.mono (by simp))
  clear hb1
  go_wp2_with (refine wpList_store_blk rfl 24 (.tmp 5) (.tmp 12) rfl w1.heap.size (q.map B) rfl rfl 24 zero32 (Blk.new_at rfl) hzl.out hsq.out (all_B _) ?_)
  have hB0b : Blk ((w1.alloc (.cells zero32.toArray 24)).setRow w1.heap.size (q.map B).toArray) w.heap.size 24 (d.map B) := (hB0.alloc _).setRow_far (by have := hB0.lt; omega) _
  have hB1b : Blk ((w1.alloc (.cells zero32.toArray 24)).setRow w1.heap.size (q.map B).toArray) w1.heap.size 24 (q.map B) := (Blk.new_at (cs := zero32) rfl).setRow_same _
  have hbl2 : Below w.heap.size w ((w1.alloc (.cells zero32.toArray 24)).setRow w1.heap.size (q.map B).toArray) := below_setRow (hbl1.alloc hbl1.size _) hbl1.size _
  clear hB0 hbl1
  generalize (w1.alloc (.cells zero32.toArray 24)).setRow w1.heap.size (q.map B).toArray = w2 at hB0b hB1b hbl2 ⊢
  refine (c2.out _).mono ?_
  rintro e w3 ⟨rfl, hb3⟩
  replace hB0b := hB0b.below hb3 hB0b.lt
  replace hB1b := hB1b.below hb3 hB1b.lt
  replace hbl2 := hbl2.trans (hb3.mono hbl2.size)
  clear hb3 c1 c2
  generalize w1.heap.size = g1 at hB1b ⊢
  go_wp2_with (refine wpList_store_blk rfl 24 (.tmp 7) (.tmp 17) rfl w3.heap.size (q.map B) rfl rfl 24 zero32 (Blk.new_at rfl) hzl.out hsq.out (all_B _) ?_)
  have hB0 : Blk ((w3.alloc (.cells zero32.toArray 24)).setRow w3.heap.size (q.map B).toArray) w.heap.size 24 (d.map B) := (hB0b.alloc _).setRow_far (by have := hB0b.lt; omega) _
  have hB1 : Blk ((w3.alloc (.cells zero32.toArray 24)).setRow w3.heap.size (q.map B).toArray) g1 24 (q.map B) := (hB1b.alloc _).setRow_far (by have := hB1b.lt; omega) _
  have hB2 : Blk ((w3.alloc (.cells zero32.toArray 24)).setRow w3.heap.size (q.map B).toArray) w3.heap.size 24 (q.map B) := (Blk.new_at (cs := zero32) rfl).setRow_same _
  have hbl : Below w.heap.size w ((w3.alloc (.cells zero32.toArray 24)).setRow w3.heap.size (q.map B).toArray) := below_setRow (hbl2.alloc hbl2.size _) hbl2.size _
  clear hB0b hB1b hbl2 hz
  try go_frame
  generalize (w3.alloc (.cells zero32.toArray 24)).setRow w3.heap.size (q.map B).toArray = w4 at hB0 hB1 hB2 hbl ⊢
  generalize w3.heap.size = g2 at hB2 ⊢
  have hK1 := keys_below hK hbl
  haveI := over_nonempty w4
  refine quiet_over (by kernel_rfl) (by kernel_rfl) ?_
  repeat (first
    | (refine wpQuiet_load_g 24 (.tmp 2) rfl rfl w.heap.size rfl 24 (d.map B) (fun w hw => ?_) _ Tryd.underlying24 rfl hsd.out ?_
       · obtain ⟨s, rfl⟩ := hw
         exact blk_over hB0 s
       go_frame)
    | (refine wpQuiet_load_g 24 (.tmp 5) rfl rfl g1 rfl 24 (q.map B) (fun w hw => ?_) _ Tryd.underlying24 rfl hsq.out ?_
       · obtain ⟨s, rfl⟩ := hw
         exact blk_over hB1 s
       go_frame)
    | (refine wpQuiet_load_g 24 (.tmp 7) rfl rfl g2 rfl 24 (q.map B) (fun w hw => ?_) _ Tryd.underlying24 rfl hsq.out ?_
       · obtain ⟨s, rfl⟩ := hw
         exact blk_over hB2 s
       go_frame)
    | (refine wpQuiet_eql_dig (.tmp 25) (.tmp 26) _ rfl rfl q q rfl rfl hq32.out hq32.out true (by simp) ?_; go_frame)
    | go_big_quiet_step (first
        | (go_at_call 15; exact calls_over _ (hex_any d hd.out _))
        | (go_at_call 25; exact calls_over _ (rhex_any d hd.out _))
        | (go_at_call 14; exact calls_over _ (alive_any _ (keys_below hK1 (Subtype.property _))))))
  refine wpQuiet_nil ?_
  rintro _ ⟨s, rfl⟩
  go_wp2
  go_ret
  exact ⟨rfl, hbl.trans (s.2.mono hbl.size)⟩
end Go.Proofs.YtahjfnnmaalnoaaDoor
