/- A first commit: it may be, its bytes, its digest. -/
import Derived.Test.YtamdhaoglapnnaaGreatDoorM15
import Derived.Test.YtamdhaoglapnnaaGreatDoorM06
import Derived.Test.YtamdhaoglapnnaaGreatDoorM04
import Derived.Handy
import Derived.Test.YtamdhaoglapnnaaGreatDoorM21
import Derived.Test.YtamdhaoglapnnaaGreatDoorM22
section
namespace Go.Proofs.YtamdhaoglapnnaaGreatDoor
open Go.RowKit

def comL (a : Str) (o : Value) : List Value := [.slice none 0 0, .string ⟨a.toArray⟩, .string ⟨#[]⟩, o]
theorem nmOk_len' {s : Str} (h : nmOk s = true) : s.length ≤ 24 := by
  simp only [nmOk, Bool.and_eq_true, decide_eq_true_eq] at h
  exact h.2
set_option maxRecDepth 100000 in
set_option maxHeartbeats 1000000 in
theorem may_first (a t : Str) (o : Value) (ok : Nat → Prop) (w : World) (h : OpsIs w ok o (chain t)) (ha : nmOk a = true) (ht : t.length ≤ 2000) :
    Calls Tryz.prog 197 #[.agg (comL a o).toArray] w fun e w' => e = .returned (.int .i64 0) ∧ Below w.heap.size w w' := by
  have hal := nmOk_len' ha
  have hnm := fun W => nm_any a W (by omega)
  unfold strV at hnm
  simp only [ha] at hnm
  replace hnm := Lib.hid hnm
  have hlt := chain_len t 0
  obtain ⟨OA, c, rfl, hc, hr⟩ := h
  have hO : Hid (OpsIs w ok (.slice OA (chain t).length c) (chain t)) := Lib.hid ⟨OA, c, rfl, hc, hr⟩
  rw [show (chain t).length = t.length from hlt] at *
  clear hr hc
  unfold comL
  go_enter Tryz.func197, Tryz.ntmps197
  go_wp2_with fail
  refine wp_loop_rounds 1 ?_
  rw [rounds_succ]
  go_wp2_with fail
  refine (hnm.out _).mono ?_
  rintro e W ⟨rfl, rfl⟩
  go_wp2_with fail
  generalize hW1 : World.alloc w (Obj.cells _ 155) = W1
  have hb1 : Below w.heap.size w W1 := by rw [← hW1]; go_grown
  have hB1 : Blk W1 w.heap.size 155 (comL a (.slice OA t.length c)) := by rw [← hW1]; exact Blk.new_at (cs := comL a (.slice OA t.length c)) rfl
  clear hW1
  replace hb1 := Lib.hid hb1
  replace hB1 := Lib.hid hB1
  go_loopw [52] (fun i wr => ∃ m : Nat, m ≤ t.length ∧ i = .int .i64 m ∧ Below W1.heap.size W1 wr) (fun i _ => t.length - (intOf i).toNat)
  case atStart => exact ⟨0, Nat.zero_le _, rfl, Below.refl _ _⟩
  case round =>
    obtain ⟨m, hm, rfl, hbr⟩ := hrel
    by_cases hlt2 : m < t.length
    · have hBr := hB1.out.below hbr hB1.out.lt
      have d3 : wr.cell? ⟨w.heap.size, 3, none⟩ = some (.slice OA t.length c) := hBr.cell 3
      have hOr := (hO.out.stayB hb1.out).stayB (hbr.mono (Nat.le_refl _))
      have hri := Lib.hid (right_chain t _ ok m wr hOr ht hlt2)
      have i1 : (0 : Int) ≤ (m : Int) := by omega
      have i2 : (m : Int) < (t.length : Int) := by omega
      replace hbr := Lib.hid hbr
      clear hBr hOr
      go_wp2_with fail
      refine hri.out.mono ?_
      rintro e w3 ⟨rfl, hb3⟩
      have hb4 := Lib.hid (hbr.out.trans (hb3.mono hbr.out.size))
      go_wp2_with fail
      refine ⟨⟨m + 1, by omega, ?_, hb4.out⟩, ?_⟩
      · go_num
      · simp [intOf]
        omega
    · have hmt : m = t.length := by omega
      subst hmt
      go_wp2_with fail
      go_returns
      exact ⟨rfl, hb1.out.trans (hbr.mono hb1.out.size)⟩
end Go.Proofs.YtamdhaoglapnnaaGreatDoor
end
section
/- The first commit of a text. -/
namespace Go.Proofs.YtamdhaoglapnnaaGreatDoor
open Go.RowKit

theorem comSz (a : Str) (o : Value) : (Tryz.prog.info? 155).map (·.size) = some (comL a o).length := by
  have e : (Tryz.prog.info? 155).map (·.size) = some 4 := by kernel_rfl
  rw [e]
  rfl
set_option maxRecDepth 100000 in
set_option maxHeartbeats 4000000 in
theorem ecommit_first (a t : Str) (ha : nmOk a = true) (ht : t.length ≤ 1000) (h0 : t ≠ []) (w : World) :
    Calls Tryz.prog 110 #[nilS, nilS, strV a, .string ⟨#[]⟩, strV t] w fun e w' => ∃ o, e = .returned (.tuple #[.agg (comL a o).toArray, .int .i64 0]) ∧ w'.ownsRow w.heap.size 283 37 o t.length (oCells (chain t)) ∧ Below w.heap.size w w' := by
  have hal := nmOk_len' ha
  have hnm := fun W => nm_any a W (by omega)
  unfold strV at hnm ⊢
  simp only [ha] at hnm
  replace hnm := Lib.hid hnm
  go_enter Tryz.func110, Tryz.ntmps110
  go_wp2_with fail
  generalize hW1 : World.alloc w (Obj.cells _ 155) = w1
  have hb1 : Below w.heap.size w w1 := by rw [← hW1]; exact (Below.refl _ _).alloc (Nat.le_refl _) _
  have hC : Blk w1 w.heap.size 155 [nilS, .string ⟨#[]⟩, .string ⟨#[]⟩, nilS] := by rw [← hW1]; exact Blk.new_at (cs := [_, _, _, _]) rfl
  clear hW1
  refine (hmerge_nil _).mono ?_
  rintro e w2 ⟨rfl, hb2⟩
  have hb2' := Lib.hid (hb1.trans (hb2.mono hb1.size))
  have hC2 := Lib.hid (hC.below hb2 hC.lt)
  clear hb1 hb2 hC
  go_wp2_with fail
  refine (hnm.out _).mono ?_
  rintro e w3 ⟨rfl, rfl⟩
  go_wp2_with fail
  refine (htree_nil _).mono ?_
  rintro e w3 ⟨tb, nb, mb, ab, rfl, hT, _, _, _, _, hb3⟩
  have hb3' := Lib.hid (hb2'.out.trans (hb3.mono hb2'.out.size))
  have hC3 := Lib.hid (hC2.out.below hb3 hC2.out.lt)
  clear hb3 hC2 hb2'
  replace hT := Lib.hid hT
  go_wp2_with fail
  have hops := ops_first t ht h0 tb nb mb ab w3 hT.out
  unfold strV at hops
  refine hops.mono ?_
  rintro e w4 ⟨V, rfl, hO, hb4⟩
  have hb4' := Lib.hid (hb3'.out.trans (hb4.mono hb3'.out.size))
  have hC4 := hC3.out.below hb4 hC3.out.lt
  obtain ⟨OA, oc, rfl, _, _⟩ := own_form hO
  replace hO := Lib.hid hO
  have hs3 := hb3'.out.size
  have k0 : w4.cell? ⟨w.heap.size, 0, none⟩ = some nilS := hC4.cell 0
  have k1 : w4.cell? ⟨w.heap.size, 1, none⟩ = some (.string ⟨#[]⟩) := hC4.cell 1
  have k2 : w4.cell? ⟨w.heap.size, 2, none⟩ = some (.string ⟨#[]⟩) := hC4.cell 2
  have k3 : w4.cell? ⟨w.heap.size, 3, none⟩ = some nilS := hC4.cell 3
  clear hb4 hC3 hops
  replace hC4 := Lib.hid hC4
  go_wp2_with (first | (refine wpList_store_blk rfl 155 (.tmp 10) (.tmp 61) rfl w.heap.size (comL a (.slice OA t.length oc)) rfl rfl 155 [nilS, .string ⟨#[]⟩, .string ⟨#[]⟩, nilS] hC4.out rfl (comSz _ _) (by simp [comL, Value.oneCell']) ?_) | fail)
  exact ret_blk2 rfl w.heap.size 155 (comL a (.slice OA t.length oc)) _ (.int .i64 0) rfl rfl (hC4.out.setRow_same _) Tryz.underlying155 rfl (comSz _ _) rfl ⟨_, rfl, row_weak hs3 (own_touch hO.out (Touch.setRow (L := [w.heap.size]) (by simp) _) (fun b hb hm => by
    obtain rfl : b = w.heap.size := by simpa using hm
    exact row_tag hO.out hC4.out (by decide) hb.symm)), below_setRow hb4'.out (Nat.le_refl _) _⟩
end Go.Proofs.YtamdhaoglapnnaaGreatDoor
end
