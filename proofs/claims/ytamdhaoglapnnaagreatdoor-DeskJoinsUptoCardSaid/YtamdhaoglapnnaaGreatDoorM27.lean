/- A first commit's bytes. -/
import Derived.Test.YtamdhaoglapnnaaGreatDoorM16
import Derived.Test.YtamdhaoglapnnaaGreatDoorM23
import Derived.Test.YtamdhaoglapnnaaGreatDoorM07
import Derived.Test.YtamdhaoglapnnaaGreatDoorM26
section
namespace Go.Proofs.YtamdhaoglapnnaaGreatDoor
open Go.RowKit

/-- In the middle of the writing. -/
structure EnSt (w W : World) (a : Str) (o V : Value) (xs : Str) : Prop where
  row : W.ownsRow w.heap.size 5 1 V xs.length (xs.map B)
  below : Below w.heap.size w W
  box : Blk W w.heap.size 155 (comL a o)
theorem EnSt.size {w W : World} {a : Str} {o V : Value} {xs : Str} (h : EnSt w W a o V xs) : w.heap.size ≤ W.heap.size := h.below.size
theorem EnSt.next {w W W' : World} {a : Str} {o V V' : Value} {xs ys : Str} (h : EnSt w W a o V xs) (hr : W'.ownsRow w.heap.size 5 1 V' ys.length (ys.map B)) (hb : Below w.heap.size W W') (hk : Keep8 W W') : EnSt w W' a o V' ys :=
  ⟨hr, h.below.trans hb, hk _ _ _ h.box (by decide)⟩
theorem EnSt.calm {w W W' : World} {a : Str} {o V : Value} {xs : Str} (h : EnSt w W a o V xs) (hb : Below W.heap.size W W') : EnSt w W' a o V xs :=
  h.next (own_touch h.row (Touch.ofBelow (L := []) hb) (fun _ _ hm => by cases hm)) (hb.mono h.below.size) (Keep8.below hb)
theorem flat_take {t : Str} {m : Nat} (h : m < t.length) : (chain (t.take (m + 1))).flatMap opS = (chain (t.take m)).flatMap opS ++ opS (insOp m t[m]) := by
  rw [take_at1 h]
  unfold chain
  rw [chain_snoc, List.flatMap_append, List.length_take_of_le (by omega), Nat.zero_add]
  simp
theorem opS_len (k : Nat) (c : UInt8) (h : k ≤ 2000) : (opS (insOp k c)).length ≤ 30 := by
  have h1 := putN_len 9 k (by omega)
  have h2 := putN_len 0 0 (by omega)
  have h3 := putN_len 1 4 (by omega)
  rw [opS_ins]
  by_cases hk : k = 0
  · simp only [hk, if_true, List.length_append, List.length_cons, List.length_nil]
    omega
  · simp only [hk, if_false, List.length_append, List.length_cons, List.length_nil]
    omega
theorem flat_len : ∀ (t : Str) (k : Nat), k + t.length ≤ 2000 → ((chainFrom k t).flatMap opS).length ≤ 30 * t.length
  | [], _, _ => by simp [chainFrom]
  | c :: t, k, h => by
    simp only [List.length_cons] at h
    have h1 := flat_len t (k + 1) (by omega)
    have h2 := opS_len k c (by omega)
    simp only [chainFrom, List.flatMap_cons, List.length_append, List.length_cons]
    omega
theorem txtS_len {s : Str} (h : s.length ≤ 2000) : (txtS s).length ≤ s.length + 10 := by
  have h1 := putN_len 9 s.length (by omega)
  simp [txtS]
  omega
def headS (a t : Str) : Str := putN 0 ++ txtS a ++ txtS [] ++ putN t.length
theorem enc_first (a t : Str) : encS (comT a t) = headS a t ++ (chain t).flatMap opS := by
  have h : (chain t).length = t.length := chain_len t 0
  simp [encS, comT, headS, h]
set_option maxRecDepth 100000 in
set_option maxHeartbeats 4000000 in
theorem encode_first (a t : Str) (o : Value) (ok : Nat → Prop) (w : World) (h : OpsIs w ok o (chain t)) (ha : nmOk a = true) (ht : t.length ≤ 1000) :
    Calls Tryz.prog 132 #[.agg (comL a o).toArray] w fun e w' => ∃ V, e = .returned (.tuple #[V, .int .i64 0]) ∧ w'.ownsRow w.heap.size 5 1 V (encS (comT a t)).length ((encS (comT a t)).map B) ∧ Below w.heap.size w w' := by
  have hal := nmOk_len' ha
  rw [enc_first]
  have hcl : (chain t).length = t.length := chain_len t 0
  obtain ⟨OA, oc, rfl, hoc, hor⟩ := h
  have hO : Hid (OpsIs w ok (.slice OA (chain t).length oc) (chain t)) := Lib.hid ⟨OA, oc, rfl, hoc, hor⟩
  rw [hcl] at hO ⊢
  clear hor hoc
  have hmay := Lib.hid (fun W hb => may_first a t (.slice OA t.length oc) ok W (hO.out.stayB hb) ha (by omega))
  unfold comL at hmay ⊢
  go_enter Tryz.func132, Tryz.ntmps132
  go_wp2_with fail
  generalize hW1 : World.alloc w (Obj.cells _ 155) = w1
  have hS1 : EnSt w w1 a (.slice OA t.length oc) nilS [] := ⟨⟨rfl, .inl ⟨rfl, rfl⟩⟩, by rw [← hW1]; exact (Below.refl _ _).alloc (Nat.le_refl _) _, by rw [← hW1]; exact Blk.new_at (cs := comL a (.slice OA t.length oc)) rfl⟩
  clear hW1
  refine (hmay.out _ hS1.below).mono ?_
  rintro e w2 ⟨rfl, hb2⟩
  have hS2 := hS1.calm hb2
  have k0 : w2.cell? ⟨w.heap.size, 0, none⟩ = some nilS := hS2.box.cell 0
  have hs2 := hS2.size
  have hnum := Lib.hid (num_any 0 nilS [] w.heap.size w2 (by omega) hS2.row hs2 (by simp))
  replace hS2 := Lib.hid hS2
  clear hS1 hb2
  go_wp2_with fail
  refine hnum.out.mono ?_
  rintro e w3 ⟨V, rfl, hr3, hb3, hk3⟩
  have hS3 := hS2.out.next hr3 hb3 hk3
  have k0' : w3.cell? ⟨w.heap.size, 0, none⟩ = some nilS := hS3.box.cell 0
  obtain ⟨GA, gc, rfl, _, _⟩ := own_form hr3
  clear hr3 hb3 hk3 hnum k0
  rw [List.nil_append] at *
  replace hS3 := Lib.hid hS3
  go_wp2_with fail
  refine wp_loop_rounds 1 ?_
  rw [rounds_succ]
  go_wp2_with fail
  have hta := txtS_len (s := a) (by omega)
  have ht0 : (txtS []).length ≤ 10 := txtS_len (s := []) (by simp)
  have hp0 : (putN 0).length ≤ 1 := putN_len 0 0 (by omega)
  obtain ⟨PS, hPS⟩ : ∃ PS : World → Prop, ∀ x, PS x ↔ Blk x w.heap.size 155 (comL a (.slice OA t.length oc)) := ⟨_, fun _ => Iff.rfl⟩
  have s1 : ∀ s : Cls PS, s.1.cell? ⟨w.heap.size, 1, none⟩ = some (.string ⟨a.toArray⟩) := fun s => ((hPS _).1 s.2).cell 1
  have s2 : ∀ s : Cls PS, s.1.cell? ⟨w.heap.size, 2, none⟩ = some (.string ⟨#[]⟩) := fun s => ((hPS _).1 s.2).cell 2
  have s4 : PS w3.drew := (hPS _).2 hS3.out.box.drew
  haveI : Nonempty (Cls PS) := ⟨⟨_, s4⟩⟩
  replace hPS := Lib.hid hPS
  refine region_seg (fun w' => ∃ s : Cls PS, w' = s.1) [([0, 1, 2, 5, 6], 3), ([], 4)] [] 7 [8, 9] (by kernel_rfl) (by kernel_rfl) (fun _ d _ _ _ h => by cases d <;> exact h) ⟨⟨_, s4⟩, rfl⟩ ?_
  simp only [wpSeg, pickOps, List.map_cons, List.map_nil, nthOp_zero, nthOp_succ]
  repeat (first | go_big_quiet_step (fail))
  refine wpQuiet_nil ?_
  intro K hK
  go_simp
  have htx := wtext_any a w3.drew (by omega)
  unfold strV at htx
  refine htx.mono ?_
  rintro e w4 ⟨V4, rfl, hr4, hb4⟩
  have hS4 := hS3.out.calm ((Below.refl _ _).drew.trans hb4)
  obtain ⟨TA, tc, rfl, _, _⟩ := own_form hr4
  refine hK _ _ ⟨⟨_, (hPS.out _).2 hS4.box⟩, rfl⟩ ?_
  clear hK
  refine wpQuiet_nil ?_
  intro K hK
  refine step_append_rd _ rfl (.tmp 30) (.tmp 33) 49 rfl w.heap.size 5 (B 0) 1 1 Tryz.underlying49 infoB (.slice GA (putN 0).length gc) (putN 0).length ((putN 0).map B) rfl hS4.row _ TA (txtS a).length tc ((txtS a).map B) rfl (by simp) (own_rd hr4) (by simp [Value.oneCell']) (by unfold maxLen; omega) (by omega) hS4.size ?_
  intro v5 w5 hrow5 hg5 hv5
  obtain ⟨y5, hy5⟩ : ∃ y5, y5 = putN 0 ++ txtS a := ⟨_, rfl⟩
  have hl5 : y5.length ≤ 100 := by rw [hy5]; simp only [List.length_append]; omega
  have hS5 := hS4.next (ys := y5) (by rw [hy5]; simpa using hrow5) (own_below hS4.row hg5 hS4.size) (Keep8.grown hS4.row hg5)
  obtain ⟨UA, uc, rfl, _, _⟩ := own_form hS5.row
  replace hy5 := Lib.hid hy5
  refine hK _ _ ⟨⟨_, (hPS.out _).2 hS5.box⟩, rfl⟩ ?_
  clear hK hrow5 hg5 hv5 hr4 hb4 htx
  replace hS5 := Lib.hid hS5
  refine wpQuiet_nil ?_
  go_wp2_with fail
  have hs5 := hS5.out.size
  have htx0 := wtext_any [] w5 (by simp)
  unfold strV at htx0
  refine htx0.mono ?_
  rintro e w6 ⟨V6, rfl, hr6, hb6⟩
  have hS6 := Lib.hid (hS5.out.calm hb6)
  obtain ⟨TB, tb, rfl, _, _⟩ := own_form hr6
  have hR6 := Lib.hid (own_rd hr6)
  clear hr6 hb6 htx0
  have hs6 := hS6.out.size
  go_wp2_with (at_builtin; refine wpList_append_rd _ rfl (.tmp 34) (.tmp 37) 49 rfl w.heap.size 5 (B 0) 1 1 Tryz.underlying49 infoB (.slice UA y5.length uc) y5.length (y5.map B) rfl hS6.out.row _ TB (txtS []).length tb ((txtS []).map B) rfl (by simp) hR6.out (by simp [Value.oneCell']) (by unfold maxLen; omega) (by omega) hs6 ?_; intro v7 w7 hrow7 hg7 hv7; obtain ⟨y7, hy7⟩ : ∃ y7, y7 = y5 ++ txtS [] := ⟨_, rfl⟩; have hl7 : y7.length ≤ 120 := (by rw [hy7]; simp only [List.length_append]; omega); have hS7 := hS6.out.next (ys := y7) (by rw [hy7]; simpa using hrow7) (own_below hS6.out.row hg7 hs6) (Keep8.grown hS6.out.row hg7); obtain ⟨UB, ub, rfl, _, _⟩ := own_form hS7.row; have k3 : w7.cell? ⟨w.heap.size, 3, none⟩ = some (.slice OA t.length oc) := hS7.box.cell 3; replace hS7 := Lib.hid hS7; replace hy7 := Lib.hid hy7; clear hrow7 hg7 hv7; go_frame)
  have hs7 := hS7.out.size
  refine (num_any t.length _ y7 w.heap.size _ (by omega) hS7.out.row hs7 (by omega)).mono ?_
  rintro e w8 ⟨V, rfl, hr8, hb8, hk8⟩
  obtain ⟨y8, hy8⟩ : ∃ y8, y8 = y7 ++ putN t.length := ⟨_, rfl⟩
  have hpt := putN_len 9 t.length (by omega)
  have hl8 : y8.length ≤ 140 := by rw [hy8]; simp only [List.length_append]; omega
  rw [← hy8] at hr8
  have hS8 := hS7.out.next hr8 hb8 hk8
  obtain ⟨UC, ub8, rfl, _, _⟩ := own_form hS8.row
  have k38 : w8.cell? ⟨w.heap.size, 3, none⟩ = some (.slice OA t.length oc) := hS8.box.cell 3
  replace hS8 := Lib.hid hS8
  replace hy8 := Lib.hid hy8
  clear hr8 hb8 hk8
  go_wp2_with fail
  go_loopw [5, 47] (fun b i wr => ∃ m : Nat, m ≤ t.length ∧ i = .int .i64 m ∧ EnSt w wr a (.slice OA t.length oc) b (y8 ++ (chain (t.take m)).flatMap opS)) (fun _ i _ => t.length - (intOf i).toNat)
  case atStart => exact ⟨0, Nat.zero_le _, rfl, by simpa [chain, chainFrom] using hS8.out⟩
  case round =>
    obtain ⟨m, hm, rfl, hst⟩ := hrel
    by_cases hlt : m < t.length
    · obtain ⟨zs, hzs⟩ : ∃ zs, zs = y8 ++ (chain (t.take m)).flatMap opS := ⟨_, rfl⟩
      have hzl : zs.length ≤ 31000 := by
        have h1 := flat_len (t.take m) 0 (by simp; omega)
        have h2 : (t.take m).length ≤ 1000 := by simp; omega
        rw [hzs, List.length_append]
        unfold chain
        omega
      have hfl := Lib.hid (flat_take hlt)
      rw [← hzs] at hst
      obtain ⟨FA, fc, rfl, _, _⟩ := own_form hst.row
      have hOr := hO.out.stayB hst.below
      rw [← hcl] at hOr
      have hmc : m < (chain t).length := by omega
      obtain ⟨b, o, rfl, _, hbl, hcells⟩ := hOr.op (chain_osfit (by omega)).ok m hmc
      have hat : (chain t)[m] = insOp m t[m] := by
        have h1 := chain_at t 0 m hlt
        rw [Nat.zero_add] at h1
        exact Option.some.inj ((List.getElem?_eq_getElem hmc).symm.trans h1)
      rw [hat] at hcells
      obtain ⟨c, hc⟩ : ∃ c, c = t[m] := ⟨_, rfl⟩
      rw [← hc] at hcells hfl
      have hf := insOp_fit (k := m) c (by omega)
      have i1 : (0 : Int) ≤ (m : Int) := by omega
      have i2 : (m : Int) < (t.length : Int) := by omega
      replace hst := Lib.hid hst
      replace hzs := Lib.hid hzs
      replace hcells := Lib.hid hcells
      replace hc := Lib.hid hc
      clear hOr hat hO hmay
      go_wp2_with (first
        | (refine wpList_load_mid rfl 283 (.tmp 49) rfl b (o + m * 37) rfl (opCells (insOp m c)) _ (fun j v hv => hcells.out j v hv) Tryz.underlying283 rfl (opSz hf) ?_)
        | (refine wpList_store_blk rfl 283 (.tmp 9) (.tmp 50) rfl wr.heap.size (opCells (insOp m c)) rfl rfl 283 zeroOp (Blk.new_at rfl) (by rw [opCells_len hf]; rfl) (opSz hf) (opCells_one _) ?_
           generalize hw1 : World.setRow _ wr.heap.size (opCells (insOp m c)).toArray = w9
           have hB9 : Blk w9 wr.heap.size 283 (opCells (insOp m c)) := by
             rw [← hw1]
             exact (Blk.new_at (w := wr) (t := 283) (cs := zeroOp) rfl).setRow_same (opCells (insOp m c))
           have hb9 : Below wr.heap.size wr w9 := by
             rw [← hw1]
             exact below_setRow ((Below.refl wr.heap.size wr).alloc (Nat.le_refl _) (.cells zeroOp.toArray 283)) (Nat.le_refl _) (opCells (insOp m c)).toArray
           clear hw1
           replace hB9 := Lib.hid hB9
           replace hb9 := Lib.hid hb9
           go_frame)
        | (refine wpList_load_blk rfl 283 (.tmp 9) rfl wr.heap.size rfl 283 (opCells (insOp m c)) hB9.out _ Tryz.underlying283 rfl (opSz hf) ?_)
        | fail)
      have hS9 := hst.out.calm hb9.out
      refine (op_ins m c (by omega) _ zs w.heap.size w9 hS9.row hS9.size (by omega)).mono ?_
      rintro e w10 ⟨V, rfl, hr10, hb10, hk10⟩
      have hS10 := Lib.hid (hS9.next hr10 hb10 hk10)
      clear hr10 hb10 hk10 hS9
      go_wp2_with fail
      refine ⟨⟨m + 1, by omega, by go_num, ?_⟩, by simp [intOf]; omega⟩
      rw [hfl.out, ← List.append_assoc, ← hzs.out]
      exact hS10.out
    · have hmt : m = t.length := by omega
      subst hmt
      go_wp2_with fail
      have e8 : headS a t = y8 := by rw [hy8.out, hy7.out, hy5.out]; rfl
      rw [List.take_length] at hst
      rw [e8]
      obtain ⟨FA, fc, rfl, _, _⟩ := own_form hst.row
      go_returns
      exact ⟨_, rfl, hst.row, hst.below⟩
end Go.Proofs.YtamdhaoglapnnaaGreatDoor
end
section
/- The walks of digest.Sum and digest.Hex. -/
namespace Go.Proofs.YtamdhaoglapnnaaGreatDoor
open Go.RowKit

set_option maxHeartbeats 1000000 in
theorem sum_any (xs : List UInt8) (A : Option Addr) (cap : Nat) (w : World) (hR : Rd w (· < w.heap.size) A (xs.map B)) (hcap : xs.length ≤ cap) (hn : xs.length ≤ 281474976710656) (hK : KeysIn w) :
    Calls Tryz.prog 92 #[.slice A xs.length cap] w fun e w' => e = .returned (.agg ((shaOf xs).map B).toArray) ∧ Below w.heap.size w w' := by
  have hz := (zero_of_info zeros32).1
  go_enter Tryz.func92, Tryz.ntmps92
  go_wp2_with (go_at_call 152; refine (new_any _).mono ?_)
  rintro e w1 ⟨g, rfl, hg, hB1, hb1⟩
  have hs1 := hb1.size
  simp at hs1
  have hH1 := hashIs_new hB1
  have hb1' : Below w.heap.size w w1 := ((Below.refl w.heap.size w).alloc (Nat.le_refl _) _).trans (hb1.mono (by simp))
  have hres : Blk w1 w.heap.size 115 zero32 := (Blk.new_at (w := w) rfl).below hb1 (by simp)
  have hR1 : Rd w1 (· ≠ g) A (xs.map B) := (hR.below hb1').weak (fun b hb hlt => by simp at hg; omega)
  have hw := write_any g [] xs A cap w1 hH1 hR1 hcap (by simp; omega) (keys_below hK hb1')
  simp at hg
  clear hz hb1
  replace hw := Lib.hid hw
  go_wp2_with (go_at_call 153; refine hw.out.mono ?_)
  rintro e w2 ⟨rfl, hH2, hG2⟩
  have hb2 : Below w.heap.size w w2 := hb1'.trans (below_of_grown hG2 (by omega) (by omega))
  have hres2 : Blk w2 w.heap.size 115 zero32 := hres.grown hG2 (by simp; omega)
  have hh := hsum_any g ([] ++ xs) w2 hH2 (by simpa using hn) (keys_below hK hb2)
  rw [List.nil_append] at hh
  replace hh := Lib.hid hh
  go_wp2_with (go_at_call 154; refine hh.out.mono ?_)
  rintro e w3 ⟨rfl, hb3⟩
  go_wp2_with (refine wpList_store_blk rfl 115 (.tmp 2) (.tmp 9) rfl w.heap.size ((shaOf xs).map B) rfl rfl 115 zero32 (hres2.below hb3 hres2.lt) rfl (by kernel_rfl) (all_B _) ?_)
  refine ret_blk Tryz.results92 w.heap.size 115 ((shaOf xs).map B) _ rfl ((hres2.below hb3 hres2.lt).setRow_same _) Tryz.underlying115 rfl (by kernel_rfl) rfl ?_
  exact ⟨rfl, below_setRow (hb2.trans (hb3.mono hb2.size)) (Nat.le_refl _) _⟩
end Go.Proofs.YtamdhaoglapnnaaGreatDoor
end
section
/- A first commit's digest. -/
namespace Go.Proofs.YtamdhaoglapnnaaGreatDoor
open Go.RowKit

theorem shaOf_len32 (m : Str) : (shaOf m).length = 32 := rfl
def idT (a t : Str) : Str := shaOf (encS (comT a t))
set_option maxRecDepth 100000 in
set_option maxHeartbeats 4000000 in
theorem id_first (a t : Str) (o : Value) (ok : Nat → Prop) (w : World) (h : OpsIs w ok o (chain t)) (ha : nmOk a = true) (ht : t.length ≤ 1000) (hK : KeysIn w) :
    Calls Tryz.prog 175 #[.agg (comL a o).toArray] w fun e w' => e = .returned (.tuple #[.agg ((idT a t).map B).toArray, .int .i64 0]) ∧ Below w.heap.size w w' := by
  have hen := encode_first a t o ok
  have hal := nmOk_len' ha
  have hel : (encS (comT a t)).length ≤ 100000 := by
    rw [enc_first]
    have h1 := txtS_len (s := a) (by omega)
    have h2 : (txtS []).length ≤ 10 := txtS_len (s := []) (by simp)
    have h3 := putN_len 0 0 (by omega)
    have h4 := putN_len 9 t.length (by omega)
    have h5 := flat_len t 0 (by omega)
    unfold headS chain
    simp only [List.length_append]
    omega
  replace hen := Lib.hid (fun W hb => hen W (h.stayB hb) ha ht)
  unfold idT
  obtain ⟨xs, hxs⟩ : ∃ xs, xs = encS (comT a t) := ⟨_, rfl⟩
  rw [← hxs] at hen hel ⊢
  replace hxs := Lib.hid hxs
  have hKb := Lib.hid (fun W (hb : Below w.heap.size w W) => keys_below hK hb)
  clear h hK
  have hdl := shaOf_len32 xs
  obtain ⟨ds, hds⟩ : ∃ ds, ds = shaOf xs := ⟨_, rfl⟩
  rw [← hds]
  have hdl' : ds.length = 32 := by rw [hds]; rfl
  replace hds := Lib.hid hds
  unfold comL at hen ⊢
  go_enter Tryz.func175, Tryz.ntmps175
  go_wp2_with fail
  generalize hW1 : World.alloc (World.alloc w _) (Obj.cells _ 115) = w1
  have hb1 : Below w.heap.size w w1 := by rw [← hW1]; exact ((Below.refl _ _).alloc (Nat.le_refl _) _).alloc (by simp) _
  have hR1 : Blk w1 (w.heap.size + 1) 115 zero32 := by rw [← hW1]; exact Blk.new_at (cs := zero32) (by simp)
  have hs1 : w.heap.size + 1 ≤ w1.heap.size := by rw [← hW1]; simp
  clear hW1
  refine (hen.out _ hb1).mono ?_
  rintro e w2 ⟨V, rfl, hr2, hb2⟩
  obtain ⟨GA, gc, rfl, hgc, _⟩ := own_form hr2
  have hR2 := hR1.below hb2 hR1.lt
  have hb2' := hb1.trans (hb2.mono hb1.size)
  have hs2 := hb2.size
  have hrd : Rd w2 (· < w2.heap.size) GA (xs.map B) := (own_rd hr2).weak (fun b hb _ => hb)
  have hsum := sum_any xs GA gc w2 hrd hgc (by omega) (hKb.out _ hb2')
  clear hr2 hb2 hR1 hb1
  replace hb2' := Lib.hid hb2'
  replace hR2 := Lib.hid hR2
  rw [← hds.out] at hsum
  replace hsum := Lib.hid hsum
  go_wp2_with fail
  refine hsum.out.mono ?_
  rintro e w3 ⟨rfl, hb3⟩
  have hR3 := Lib.hid (hR2.out.below hb3 hR2.out.lt)
  have hb3' := Lib.hid (hb2'.out.trans (hb3.mono hb2'.out.size))
  clear hb3
  go_wp2_with (first | (refine wpList_store_blk rfl 115 (.tmp 2) (.tmp 16) rfl (w.heap.size + 1) (ds.map B) rfl rfl 115 zero32 hR3.out (by simp [hdl', zero32]) (digSz hdl') (all_B _) ?_) | fail)
  exact ret_blk2 rfl (w.heap.size + 1) 115 (ds.map B) _ (.int .i64 0) rfl rfl (hR3.out.setRow_same _) Tryz.underlying115 rfl (digSz hdl') rfl ⟨rfl, below_setRow hb3'.out (by omega) _⟩
end Go.Proofs.YtamdhaoglapnnaaGreatDoor
end
