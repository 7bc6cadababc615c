/- The walk of DigestSorts. -/
import Derived.Test.YtahjfnnmaalnoaaDoorLess
import Derived.Test.YtahjfnnmaalnoaaDoorBelowQ
import Derived.Test.YtahjfnnmaalnoaaDoorAlive
namespace Go.Proofs.YtahjfnnmaalnoaaDoor
open Go.RowKit

theorem u8_tri (x y : UInt8) : (x < y ∧ ¬ y < x ∧ x ≠ y) ∨ (¬ x < y ∧ y < x ∧ x ≠ y) ∨ (¬ x < y ∧ ¬ y < x ∧ x = y) := by
  simp only [UInt8.lt_iff_toNat_lt, ne_eq, ← UInt8.toNat_inj]
  omega
theorem lessS_tri : ∀ (a b : List UInt8), a.length = b.length → (lessS a b = true ∧ lessS b a = false ∧ a ≠ b) ∨ (lessS a b = false ∧ lessS b a = true ∧ a ≠ b) ∨ (lessS a b = false ∧ lessS b a = false ∧ a = b)
  | [], [], _ => by simp [lessS, Op.bytesLess]
  | [], _ :: _, h => by simp at h
  | _ :: _, [], h => by simp at h
  | x :: a, y :: b, h => by
    have ih := lessS_tri a b (by simpa using h)
    unfold lessS at ih ⊢
    simp only [Op.bytesLess]
    rcases u8_tri x y with ⟨h1, h2, h3⟩ | ⟨h1, h2, h3⟩ | ⟨h1, h2, rfl⟩
    · left; simp [h1, h2, h3, Ne.symm h3]
    · right; left; simp [h1, h2, h3]
    · rcases ih with ⟨i1, i2, i3⟩ | ⟨i1, i2, i3⟩ | ⟨i1, i2, rfl⟩
      · left; simp [i1, i2, i3]
      · right; left; simp [i1, i2, i3]
      · right; right; simp [i1]
theorem lessS_trans : ∀ (a b c : List UInt8), lessS a b = true → lessS b c = true → lessS a c = true
  | _, [], _, h, _ => by simp [lessS, Op.bytesLess] at h
  | _, _ :: _, [], _, h => by simp [lessS, Op.bytesLess] at h
  | [], _ :: _, _ :: _, _, _ => by simp [lessS, Op.bytesLess]
  | x :: a, y :: b, z :: c, h1, h2 => by
    have ih := lessS_trans a b c
    unfold lessS at ih h1 h2 ⊢
    simp only [Op.bytesLess, Bool.or_eq_true, decide_eq_true_eq, Bool.and_eq_true, beq_iff_eq] at h1 h2 ⊢
    simp only [UInt8.lt_iff_toNat_lt] at h1 h2 ⊢
    rcases h1 with h1 | ⟨rfl, h1⟩
    · rcases h2 with h2 | ⟨rfl, h2⟩
      · left; omega
      · left; exact h1
    · rcases h2 with h2 | ⟨rfl, h2⟩
      · left; exact h2
      · right; exact ⟨rfl, ih h1 h2⟩

section
variable {P : Program}
theorem wpList_wanted {ops : Array Oper} {rest : List Oper} {o : Oper} {a : Act} {w : World} {Q : Exit → Act → World → Prop} (hw : Region.wanted o (yielded ops a.tmps) = true)
    (h : ∀ K : Act → World → Prop, (∀ a w, wpList P ops Q rest a w → K a w) → o.wp P a w K Q) : wpList P ops Q (o :: rest) a w :=
  wpList_step fun K hK => by rw [if_pos hw]; exact h K hK
theorem wpList_run_g {ops : Array Oper} {rest : List Oper} {o : Oper} {a : Act} {w : World} {Q : Exit → Act → World → Prop} (op : Op) (_ho : o.op = op) (hw : Region.wanted o (yielded ops a.tmps) = true) (v : Value)
    (hrun : (execOp a.eval o).run P w = .ok (.value v) w) (h : wpList P ops Q rest (a.put o.dst v) w) : wpList P ops Q (o :: rest) a w := by
  refine wpList_wanted hw fun _ hK => ?_
  unfold Oper.wp
  rw [hrun]
  exact hK _ _ h
theorem wpList_load_blk_g {ops : Array Oper} {rest : List Oper} {o : Oper} {a : Act} {w : World} {Q : Exit → Act → World → Prop} (hw : Region.wanted o (yielded ops a.tmps) = true) (ty : TypeId) (x : Operand) (ho : o.op = .load ty x)
    (g : Nat) (hx : a.eval x = .pointer (some ⟨g, 0, none⟩)) (t : TypeId) (cs : List Value) (hg : Blk w g t cs) (d : TypeDesc)
    (hu : P.underlying ty = some d) (hd : (match d with | .struct _ | .array _ _ => true | _ => false) = true) (hi : (P.info? ty).map (·.size) = some cs.length)
    (h : wpList P ops Q rest (a.put o.dst (.agg cs.toArray)) w) : wpList P ops Q (o :: rest) a w := by
  refine wpList_run_g _ ho hw _ ?_ h
  simp only [execOp, ho, hx, Instr.loadAt, Instr.sureAddr, Sem.run_bind, Sem.run_pure, Result.andThen_ok, run_loadVar_row w g t ty cs.toArray (0, 0) d hg hu hd (by simpa using hi)]
end
theorem wpList_neq_dig_g {ops : Array Oper} {rest : List Oper} {o : Oper} {a : Act} {w : World} {Q : Exit → Act → World → Prop} (hw : Region.wanted o (yielded ops a.tmps) = true) (x y : Operand) (yt : TypeId) (ho : o.op = .binOp .neq 24 x y yt)
    (xs ys : List UInt8) (hxe : a.eval x = .agg (xs.map B).toArray) (hye : a.eval y = .agg (ys.map B).toArray) (hx : xs.length = 32) (hy : ys.length = 32)
    (h : wpList Tryd.prog ops Q rest (a.put o.dst (.bool (!(xs == ys)))) w) : wpList Tryd.prog ops Q (o :: rest) a w :=
  wpList_run_g _ ho hw _ (exec_neq_dig w ho xs ys hxe hye hx hy) h

set_option maxRecDepth 100000 in
set_option maxHeartbeats 2000000 in
theorem sorts_any (a b c : List UInt8) (ha : a.length = 32) (hb : b.length = 32) (hc : c.length = 32) (w : World) (hK : KeysIn w) :
    Calls Tryd.prog 6 #[.agg (a.map B).toArray, .agg (b.map B).toArray, .agg (c.map B).toArray] w fun e w' => e = .returned (.bool true) ∧ Below w.heap.size w w' := by
  have hB1 : Blk (((w.alloc (.cells (a.map B).toArray 24)).alloc (.cells (b.map B).toArray 24)).alloc (.cells (c.map B).toArray 24)) w.heap.size 24 (a.map B) := ((Blk.new_at rfl).alloc _).alloc _
  have hB2 : Blk (((w.alloc (.cells (a.map B).toArray 24)).alloc (.cells (b.map B).toArray 24)).alloc (.cells (c.map B).toArray 24)) (w.heap.size + 1) 24 (b.map B) := (Blk.new_at (by simp)).alloc _
  have hB3 : Blk (((w.alloc (.cells (a.map B).toArray 24)).alloc (.cells (b.map B).toArray 24)).alloc (.cells (c.map B).toArray 24)) (w.heap.size + 1 + 1) 24 (c.map B) := Blk.new_at (by simp)
  have hbl : Below w.heap.size w (((w.alloc (.cells (a.map B).toArray 24)).alloc (.cells (b.map B).toArray 24)).alloc (.cells (c.map B).toArray 24)) := (((Below.refl _ _).alloc (Nat.le_refl _) _).alloc (by simp) _).alloc (by simp; omega) _
  have hsa : (Tryd.prog.info? 24).map (·.size) = some (a.map B).length := by rw [List.length_map, ha]; kernel_rfl
  have hsb : (Tryd.prog.info? 24).map (·.size) = some (b.map B).length := by rw [List.length_map, hb]; kernel_rfl
  have hsc : (Tryd.prog.info? 24).map (·.size) = some (c.map B).length := by rw [List.length_map, hc]; kernel_rfl
  have htri := lessS_tri a b (by rw [ha, hb])
  have htr := lessS_trans a b c
  replace hsa := Lib.hid hsa
  replace hsb := Lib.hid hsb
  replace hsc := Lib.hid hsc
  replace ha := Lib.hid ha
  replace hb := Lib.hid hb
  replace hc := Lib.hid hc
  replace htr := Lib.hid htr
  replace htri := Lib.hid htri
  obtain ⟨x, hx⟩ : ∃ x, x = lessS a b := ⟨_, rfl⟩
  obtain ⟨y, hy⟩ : ∃ y, y = lessS b a := ⟨_, rfl⟩
  have c1 : ∀ W, Calls Tryd.prog 16 #[.agg (a.map B).toArray, .agg (b.map B).toArray] W fun e w' => e = .returned (.bool x) ∧ Below W.heap.size W w' := fun W => by rw [hx]; exact less_any a b ha.out hb.out W
  have c2 : ∀ W, Calls Tryd.prog 16 #[.agg (b.map B).toArray, .agg (a.map B).toArray] W fun e w' => e = .returned (.bool y) ∧ Below W.heap.size W w' := fun W => by rw [hy]; exact less_any b a hb.out ha.out W
  replace c1 := Lib.hid c1
  replace c2 := Lib.hid c2
  replace hx := Lib.hid hx
  replace hy := Lib.hid hy
  go_enter Tryd.func6, Tryd.ntmps6
  go_wp2
  generalize ((w.alloc (.cells (a.map B).toArray 24)).alloc (.cells (b.map B).toArray 24)).alloc (.cells (c.map B).toArray 24) = w1 at hB1 hB2 hB3 hbl ⊢
  haveI := over_nonempty w1
  refine quiet_over (by kernel_rfl) (by kernel_rfl) ?_
  repeat (first
    | (refine wpQuiet_load_part 24 (.tmp 3) rfl rfl w.heap.size 0 rfl 24 (a.map B) (a.map B) [] (fun w hw => ?_) (by simp) _ Tryd.underlying24 rfl hsa.out ?_
       · obtain ⟨s, rfl⟩ := hw
         exact blk_over hB1 s
       go_frame)
    | (refine wpQuiet_load_part 24 (.tmp 4) rfl rfl (w.heap.size + 1) 0 rfl 24 (b.map B) (b.map B) [] (fun w hw => ?_) (by simp) _ Tryd.underlying24 rfl hsb.out ?_
       · obtain ⟨s, rfl⟩ := hw
         exact blk_over hB2 s
       go_frame)
    | go_big_quiet_step (first
        | (go_at_call_of 16 (#[Value.agg (a.map B).toArray, Value.agg (b.map B).toArray]); exact calls_over _ (c1.out _))
        | (go_at_call 16; exact calls_over _ (c2.out _))))
  refine wpQuiet_nil ?_
  rintro _ ⟨s, rfl⟩
  replace hB1 := blk_over hB1 s
  replace hB2 := blk_over hB2 s
  replace hB3 := blk_over hB3 s
  replace hbl := hbl.trans (s.2.mono hbl.size)
  obtain ⟨w2, hw2⟩ := s
  dsimp only at hB1 hB2 hB3 hbl ⊢
  clear this hw2 c1 c2
  have hK2 := keys_below hK hbl
  rcases htri.out with ⟨h1, h2, h3⟩ | ⟨h1, h2, h3⟩ | ⟨h1, h2, h3⟩
  · obtain rfl : x = true := by rw [hx.out]; exact h1
    obtain rfl : y = false := by rw [hy.out]; exact h2
    have hne : (a == b) = false := by rw [beq_eq_false_iff_ne]; exact h3
    replace h1 := Lib.hid h1
    clear h2 h3
    go_wp2_with (first
      | (refine wpList_load_blk_g rfl 24 (.tmp 3) rfl w.heap.size rfl 24 (a.map B) (by assumption) _ Tryd.underlying24 rfl hsa.out ?_)
      | (refine wpList_load_blk_g rfl 24 (.tmp 4) rfl (w.heap.size + 1) rfl 24 (b.map B) (by assumption) _ Tryd.underlying24 rfl hsb.out ?_)
      | (refine wpList_load_blk_g rfl 24 (.tmp 5) rfl (w.heap.size + 1 + 1) rfl 24 (c.map B) (by assumption) _ Tryd.underlying24 rfl hsc.out ?_)
      | (refine wpList_neq_dig_g rfl (.tmp 25) (.tmp 26) _ rfl a b rfl rfl ha.out hb.out ?_))
    have hz : ∀ W, Calls Tryd.prog 16 #[.agg (b.map B).toArray, .agg (c.map B).toArray] W fun e w' => e = .returned (.bool (lessS b c)) ∧ Below W.heap.size W w' := fun W => less_any b c hb.out hc.out W
    replace hz := Lib.hid hz
    cases hbc : lessS b c with
    | false =>
      rw [hbc] at hz
      clear hbc
      refine (hz.out _).mono ?_
      rintro e w3 ⟨rfl, hb3⟩
      replace hbl := hbl.trans (hb3.mono hbl.size)
      clear hB1 hB2 hB3 hK2 hb3
      go_wp2_with (first
        | (refine wpList_load_blk_g rfl 24 (.tmp 3) rfl w.heap.size rfl 24 (a.map B) (by assumption) _ Tryd.underlying24 rfl hsa.out ?_)
        | (refine wpList_load_blk_g rfl 24 (.tmp 4) rfl (w.heap.size + 1) rfl 24 (b.map B) (by assumption) _ Tryd.underlying24 rfl hsb.out ?_)
        | (refine wpList_load_blk_g rfl 24 (.tmp 5) rfl (w.heap.size + 1 + 1) rfl 24 (c.map B) (by assumption) _ Tryd.underlying24 rfl hsc.out ?_)
        | (refine wpList_neq_dig_g rfl (.tmp 25) (.tmp 26) _ rfl a b rfl rfl ha.out hb.out ?_))
      refine (alive_any _ (keys_below hK hbl)).mono ?_
      rintro e w5 ⟨rfl, hb5⟩
      go_wp2
      go_ret
      exact ⟨rfl, hbl.trans (hb5.mono hbl.size)⟩
    | true =>
      rw [hbc] at hz
      have hac : ∀ W, Calls Tryd.prog 16 #[.agg (a.map B).toArray, .agg (c.map B).toArray] W fun e w' => e = .returned (.bool true) ∧ Below W.heap.size W w' := fun W => by
        have := less_any a c ha.out hc.out W
        rwa [htr.out h1.out hbc] at this
      replace hac := Lib.hid hac
      clear hbc
      refine (hz.out _).mono ?_
      rintro e w3 ⟨rfl, hb3⟩
      replace hB1 := hB1.below hb3 hB1.lt
      replace hB2 := hB2.below hb3 hB2.lt
      replace hB3 := hB3.below hb3 hB3.lt
      replace hbl := hbl.trans (hb3.mono hbl.size)
      clear hK2 hb3
      go_wp2_with (first
        | (refine wpList_load_blk_g rfl 24 (.tmp 3) rfl w.heap.size rfl 24 (a.map B) (by assumption) _ Tryd.underlying24 rfl hsa.out ?_)
        | (refine wpList_load_blk_g rfl 24 (.tmp 4) rfl (w.heap.size + 1) rfl 24 (b.map B) (by assumption) _ Tryd.underlying24 rfl hsb.out ?_)
        | (refine wpList_load_blk_g rfl 24 (.tmp 5) rfl (w.heap.size + 1 + 1) rfl 24 (c.map B) (by assumption) _ Tryd.underlying24 rfl hsc.out ?_)
        | (refine wpList_neq_dig_g rfl (.tmp 25) (.tmp 26) _ rfl a b rfl rfl ha.out hb.out ?_))
      refine (hac.out _).mono ?_
      rintro e w4 ⟨rfl, hb4⟩
      replace hbl := hbl.trans (hb4.mono hbl.size)
      clear hB1 hB2 hB3 hb4
      go_wp2_with (first
        | (refine wpList_load_blk_g rfl 24 (.tmp 3) rfl w.heap.size rfl 24 (a.map B) (by assumption) _ Tryd.underlying24 rfl hsa.out ?_)
        | (refine wpList_load_blk_g rfl 24 (.tmp 4) rfl (w.heap.size + 1) rfl 24 (b.map B) (by assumption) _ Tryd.underlying24 rfl hsb.out ?_)
        | (refine wpList_load_blk_g rfl 24 (.tmp 5) rfl (w.heap.size + 1 + 1) rfl 24 (c.map B) (by assumption) _ Tryd.underlying24 rfl hsc.out ?_)
        | (refine wpList_neq_dig_g rfl (.tmp 25) (.tmp 26) _ rfl a b rfl rfl ha.out hb.out ?_))
      refine (alive_any _ (keys_below hK hbl)).mono ?_
      rintro e w5 ⟨rfl, hb5⟩
      go_wp2
      go_ret
      exact ⟨rfl, hbl.trans (hb5.mono hbl.size)⟩
  · obtain rfl : x = false := by rw [hx.out]; exact h1
    obtain rfl : y = true := by rw [hy.out]; exact h2
    have hne : (a == b) = false := by rw [beq_eq_false_iff_ne]; exact h3
    clear h1 h2 h3
    go_wp2_with (first
      | (refine wpList_load_blk_g rfl 24 (.tmp 3) rfl w.heap.size rfl 24 (a.map B) (by assumption) _ Tryd.underlying24 rfl hsa.out ?_)
      | (refine wpList_load_blk_g rfl 24 (.tmp 4) rfl (w.heap.size + 1) rfl 24 (b.map B) (by assumption) _ Tryd.underlying24 rfl hsb.out ?_)
      | (refine wpList_load_blk_g rfl 24 (.tmp 5) rfl (w.heap.size + 1 + 1) rfl 24 (c.map B) (by assumption) _ Tryd.underlying24 rfl hsc.out ?_)
      | (refine wpList_neq_dig_g rfl (.tmp 25) (.tmp 26) _ rfl a b rfl rfl ha.out hb.out ?_))
    refine (alive_any _ (keys_below hK hbl)).mono ?_
    rintro e w5 ⟨rfl, hb5⟩
    go_wp2
    go_ret
    exact ⟨rfl, hbl.trans (hb5.mono hbl.size)⟩
  · obtain rfl : x = false := by rw [hx.out]; exact h1
    obtain rfl : y = false := by rw [hy.out]; exact h2
    have hne : (a == b) = true := by rw [beq_iff_eq]; exact h3
    clear h1 h2 h3
    go_wp2_with (first
      | (refine wpList_load_blk_g rfl 24 (.tmp 3) rfl w.heap.size rfl 24 (a.map B) (by assumption) _ Tryd.underlying24 rfl hsa.out ?_)
      | (refine wpList_load_blk_g rfl 24 (.tmp 4) rfl (w.heap.size + 1) rfl 24 (b.map B) (by assumption) _ Tryd.underlying24 rfl hsb.out ?_)
      | (refine wpList_load_blk_g rfl 24 (.tmp 5) rfl (w.heap.size + 1 + 1) rfl 24 (c.map B) (by assumption) _ Tryd.underlying24 rfl hsc.out ?_)
      | (refine wpList_neq_dig_g rfl (.tmp 25) (.tmp 26) _ rfl a b rfl rfl ha.out hb.out ?_))
    refine (alive_any _ (keys_below hK hbl)).mono ?_
    rintro e w5 ⟨rfl, hb5⟩
    go_wp2
    go_ret
    exact ⟨rfl, hbl.trans (hb5.mono hbl.size)⟩
end Go.Proofs.YtahjfnnmaalnoaaDoor
