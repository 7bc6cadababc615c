/- The walk of DigestSums. -/
import Derived.Test.YtahjfnnmaalnoaaDoorRSum
import Derived.Test.YtahjfnnmaalnoaaDoorWalkHexes
import Derived.Laws.Concat
namespace Go.Proofs.YtahjfnnmaalnoaaDoor
open Go.RowKit

theorem wpQuiet_to_string_g {P : Program} {ops : Array Oper} {rest : List Oper} {o : Oper} {a : Act} {C : World → Prop} {Q : Act → Prop} {ok : Nat → Prop} (src dst : TypeId) (x : Operand) (ho : o.op = .convert src dst x) (hw : Region.wanted o (yielded ops a.tmps) = true)
    (e : TypeId) (hs : P.underlying src = some (.slice e)) (he : P.underlying e = some (.int .u8)) (hd : P.underlying dst = some .string) (A : Option Addr) (xs : List UInt8) (n : Nat) (hn : n = xs.length) (cap : Nat) (hx : a.eval x = .slice A n cap) (hr : ∀ w, C w → Rd w ok A (xs.map B))
    (h : wpQuiet P ops C Q rest (a.put o.dst (.string ⟨xs.toArray⟩))) : wpQuiet P ops C Q (o :: rest) a := by
  subst hn
  refine wpQuiet_run_g _ ho hw _ (fun w hw => ?_) h
  simp only [execOp, ho, hx, Sem.run_bind, run_to_string w src e dst hs he hd A xs cap (hr w hw), Result.andThen_ok, Sem.run_pure]

/-- '+' of two texts, in a quiet walk. -/
theorem wpQuiet_add_string_g {P : Program} {ops : Array Oper} {rest : List Oper} {o : Oper} {a : Act} {C : World → Prop} {Q : Act → Prop} (t yt : TypeId) (x y : Operand) (ho : o.op = .binOp .add t x y yt) (hw : Region.wanted o (yielded ops a.tmps) = true)
    (l r : List UInt8) (hx : a.eval x = .string ⟨l.toArray⟩) (hy : a.eval y = .string ⟨r.toArray⟩) (hl : l.length + r.length ≤ 9223372036854775807)
    (h : wpQuiet P ops C Q rest (a.put o.dst (.string ⟨(l ++ r).toArray⟩))) : wpQuiet P ops C Q (o :: rest) a := by
  refine wpQuiet_run_g _ ho hw _ (fun w _ => ?_) h
  have h1 : (⟨l.toArray⟩ : ByteArray).size + (⟨r.toArray⟩ : ByteArray).size ≤ 9223372036854775807 := by simpa [ByteArray.size] using hl
  have h2 : (⟨l.toArray⟩ : ByteArray) ++ (⟨r.toArray⟩ : ByteArray) = ⟨(l ++ r).toArray⟩ := by
    apply ByteArray.ext
    simp [ByteArray.data_append]
  simp only [execOp, ho, hx, hy, Sem.run_bind, eqGuard, Bool.not_false, if_true, Sem.run_pure, Result.andThen_ok, binOp_string_add, run_string_add_sum w _ _ h1, h2]

set_option maxRecDepth 100000 in
set_option maxHeartbeats 4000000 in
theorem sums_any (xs : List UInt8) (A : Option Addr) (cap : Nat) (w : World) (hR : Rd w (· < w.heap.size) A (xs.map B)) (hn : xs.length ≤ 140737488351232) (hK : KeysIn w) :
    Calls Tryd.prog 3 #[.slice A xs.length cap] w fun e w' => e = .returned (.bool true) ∧ Below w.heap.size w w' := by
  have hz := (zero_of_info zeros32).1
  have hrs := Lib.hid (fun w' hr => rsum_any xs A cap w' hr (by omega))
  obtain ⟨n, hnn⟩ : ∃ n, n = xs.length := ⟨_, rfl⟩
  rw [← hnn] at hn hrs ⊢
  replace hnn := Lib.hid hnn
  have hR1 := hR.below (rb_empty w).2
  go_enter Tryd.func3, Tryd.ntmps3
  go_wp2_with (first
    | (at_builtin
       refine wpList_append_rd _ rfl (.tmp 5) (.tmp 6) 22 rfl w.heap.size 5 (B 0) 1 1 Tryd.underlying22 info8 (.slice (some ⟨w.heap.size, 0, none⟩) 0 0) 0 [] rfl (own_empty w _) (· < w.heap.size) A n cap (xs.map B) rfl (by rw [List.length_map, hnn.out]; simp) hR1 (all_B _) (by unfold maxLen; omega) (by omega) (by simp) ?_
       intro v1 w1 hown1 hg1 _
       have hM1 : RB w xs v1 w1 := by
         have := rb_more (xs := xs) (rb_empty w) (by simpa [← hnn.out] using hown1) hg1
         simpa using this
       have hM1o : w1.ownsRow w.heap.size 5 1 v1 n (xs.map B) := by have := hM1.1; rwa [← hnn.out] at this
       obtain ⟨A1, cap1, rfl, hc1, _⟩ := own_form hM1o
       have hs1 := hM1.2.size
       clear hown1 hg1 hR1)
    | (at_builtin
       refine wpList_append_rd _ rfl (.tmp 7) (.tmp 8) 22 rfl w.heap.size 5 (B 0) 1 1 Tryd.underlying22 info8 (.slice A1 n cap1) n (xs.map B) rfl (own_alloc hM1o _) (· = w1.heap.size) (some ⟨w1.heap.size, 0, none⟩) 1 1 [B 9] rfl rfl (Rd.of_blk (cs := [B 9]) (r := []) (Blk.new_at rfl) rfl rfl) (by simp [Value.oneCell']) (by unfold maxLen; omega) (by omega) (by simp; omega) ?_
       intro v2 w2 hown2 hg2 _
       have hM2 : RB w (xs ++ [9]) v2 w2 := rb_grow hM1 (by simpa [← hnn.out] using hown2) hg2
       have hl2 : (xs ++ [9]).length = n + 1 := by simp [hnn.out]
       obtain ⟨A2, cap2, rfl, hc2⟩ := rb_form hM2
       rw [hl2] at hM2 hc2 ⊢
       replace hl2 := Lib.hid hl2
       clear hown2 hg2 hM1 hM1o hs1))
  have hb2 := hM2.2
  have hRx : Rd w2 (· < w2.heap.size) A2 ((xs ++ [9]).map B) := by
    have h1 := hM2.1
    rw [hl2.out] at h1
    exact (own_rd h1).weak (fun b hb _ => hb)
  have hRy : Rd w2 (· < w2.heap.size) A2 (xs.map B) := by
    have := hRx.take n
    rwa [← List.map_take, hnn.out, List.take_left] at this
  have hsum := sum_any xs A2 cap2 w2 hRy (by rw [← hnn.out]; omega) (by rw [← hnn.out]; omega) (keys_below hK hb2)
  rw [← hnn.out] at hsum
  replace hsum := Lib.hid hsum
  clear hM2 hRy
  obtain ⟨d, hd⟩ : ∃ d, d = shaOf xs := ⟨_, rfl⟩
  have hd32 : d.length = 32 := by rw [hd]; exact shaOf_length xs
  rw [← hd] at hsum hrs
  have hsd : (Tryd.prog.info? 24).map (·.size) = some (d.map B).length := by rw [List.length_map, hd32]; kernel_rfl
  have hzl : zero32.length = (d.map B).length := by rw [List.length_map, hd32]; rfl
  clear hd
  replace hd32 := Lib.hid hd32
  replace hsd := Lib.hid hsd
  replace hzl := Lib.hid hzl
  go_wp2_with (first
    | (go_at_call 12
       refine hsum.out.mono ?_
       rintro e w3 ⟨rfl, hb3⟩
       have hbl3 : Below w.heap.size w w3 := hb2.trans (hb3.mono hb2.size)
       have hsz3 := hb3.size)
    | (refine wpList_store_blk rfl 24 (.tmp 4) (.tmp 14) rfl w3.heap.size (d.map B) rfl rfl 24 zero32 (Blk.new_at rfl) hzl.out hsd.out (all_B _) ?_))
  try go_frame
  have hB4 : Blk ((w3.alloc (.cells zero32.toArray 24)).setRow w3.heap.size (d.map B).toArray) w3.heap.size 24 (d.map B) := (Blk.new_at (cs := zero32) rfl).setRow_same _
  have hbl4 : Below w.heap.size w ((w3.alloc (.cells zero32.toArray 24)).setRow w3.heap.size (d.map B).toArray) := below_setRow (hbl3.alloc hbl3.size _) hbl3.size _
  have hb4 : Below w2.heap.size w2 ((w3.alloc (.cells zero32.toArray 24)).setRow w3.heap.size (d.map B).toArray) := below_setRow (hb3.alloc hb3.size _) hb3.size _
  clear hbl3 hb3 hsz3
  generalize (w3.alloc (.cells zero32.toArray 24)).setRow w3.heap.size (d.map B).toArray = w4 at hB4 hbl4 hb4 ⊢
  generalize w3.heap.size = g4 at hB4 ⊢
  have hK4 := keys_below hK hbl4
  replace hRx := hRx.below hb4
  replace hR := hR.below hbl4
  haveI := over_nonempty w4
  refine quiet_over (by kernel_rfl) (by kernel_rfl) ?_
  repeat (first
    | (refine wpQuiet_load_g 24 (.tmp 4) rfl rfl g4 rfl 24 (d.map B) (fun w hw => ?_) _ Tryd.underlying24 rfl hsd.out ?_
       · obtain ⟨s, rfl⟩ := hw
         exact blk_over hB4 s
       go_frame)
    | (refine wpQuiet_eql_dig (.tmp 15) (.tmp 17) _ rfl rfl d d rfl rfl hd32.out hd32.out true (by simp) ?_; go_frame)
    | (refine wpQuiet_to_string_g (ok := (· < w2.heap.size)) 22 9 (.tmp 20) rfl rfl 5 Tryd.underlying22 Tryd.underlying5 Tryd.underlying9 A2 (xs ++ [9]) (n + 1) hl2.out.symm cap2 rfl (fun w' hw => ?_) ?_
       · obtain ⟨s, rfl⟩ := hw
         exact hRx.below (s.2.mono hb4.size)
       go_frame)
    | (refine wpQuiet_to_string_g (ok := (· < w.heap.size)) 22 9 (.tmp 22) rfl rfl 5 Tryd.underlying22 Tryd.underlying5 Tryd.underlying9 A xs n hnn.out cap rfl (fun w' hw => ?_) ?_
       · obtain ⟨s, rfl⟩ := hw
         exact hR.below (s.2.mono hbl4.size)
       go_frame)
    | (refine wpQuiet_add_string_g 9 _ (.tmp 23) (.const (.string ⟨#[9]⟩)) rfl rfl xs [9] rfl rfl (by rw [← hnn.out]; simp; omega) ?_; go_frame)
    | go_big_quiet_step (first
        | (go_at_call 13; exact calls_over _ (hrs.out _ (by exact (hR.below (Below.mono (Subtype.property _) hbl4.size)).weak (fun b hb _ => hb))))
        | (go_at_call 14; exact calls_over _ (alive_any _ (keys_below hK4 (Subtype.property _))))))
  refine wpQuiet_nil ?_
  rintro _ ⟨s, rfl⟩
  go_wp2
  go_ret
  exact ⟨rfl, hbl4.trans (s.2.mono hbl4.size)⟩
end Go.Proofs.YtahjfnnmaalnoaaDoor
