/- A history of one first commit: its tree, its text. -/
import Derived.Test.YtamdhaoglapnnaaGreatDoorM33
namespace Go.Proofs.YtamdhaoglapnnaaGreatDoor
open Go.RowKit

set_option maxRecDepth 100000 in
set_option maxHeartbeats 8000000 in
theorem htree_one (a t : Str) (o : Value) (lb lc ib ic : Nat) (rest ri : List Value) (w : World) (h : OpsIs w (· < w.heap.size) o (chain t)) (ha : nmOk a = true) (ht : t.length ≤ 1000) (hK : KeysIn w) (hL : Blk w lb 155 (comL a o ++ rest)) (hI : Blk w ib 115 ((idT a t).map B ++ ri)) :
    Calls Tryz.prog 126 #[.slice (some ⟨lb, 0, none⟩) 1 lc, .slice (some ⟨ib, 0, none⟩) 1 ic] w fun e w' => ∃ tb nb mb ab es us v ns, e = .returned (.tuple #[.pointer (some ⟨tb, 0, none⟩), .int .i64 0]) ∧ TreeAt w' tb nb mb ab t.length es us v ∧ ChainAt w' (idT a t) 0 t v ns ∧ Below w.heap.size w w' := by
  have hcl : (chain t).length = t.length := chain_len t 0
  have hrd := Lib.hid (hread_one a t o _ lb lc rest w h ha ht hK hL)
  obtain ⟨OA, oc, rfl, hoc, hor⟩ := h
  have hO : Hid (OpsIs w (· < w.heap.size) (.slice OA (chain t).length oc) (chain t)) := Lib.hid ⟨OA, oc, rfl, hoc, hor⟩
  rw [hcl] at hO hL
  clear hor hoc hK
  obtain ⟨ds, hds⟩ : ∃ ds, ds = idT a t := ⟨_, rfl⟩
  have hdl : ds.length = 32 := by rw [hds]; rfl
  rw [← hds] at hrd hI ⊢
  replace hds := Lib.hid hds
  replace hL := Lib.hid hL
  replace hI := Lib.hid hI
  go_enter Tryz.func126, Tryz.ntmps126
  go_wp2_with fail
  refine hrd.out.mono ?_
  rintro e w2 ⟨qb, nd, cap, pa, pc, rs, rfl, hM2, hN2, _, _, hb2⟩
  have hL2 := Lib.hid (hL.out.below hb2 hL.out.lt)
  have hI2 := Lib.hid (hI.out.below hb2 hI.out.lt)
  replace hM2 := Lib.hid hM2
  replace hN2 := Lib.hid hN2
  replace hb2 := Lib.hid hb2
  clear hL hI hrd
  go_wp2_with fail
  generalize hW3 : World.alloc w2 (Obj.cells _ 250) = w3
  have hP3 : Blk w3 w2.heap.size 250 [.slice (some ⟨nd, 0, none⟩) 1 cap, .map (some qb)] := by rw [← hW3]; exact Blk.new_at (cs := [.slice (some ⟨nd, 0, none⟩) 1 cap, .map (some qb)]) rfl
  have hb3 : Below w2.heap.size w2 w3 := by rw [← hW3]; exact (Below.refl _ _).alloc (Nat.le_refl _) _
  have hL3 := Lib.hid (hL2.out.below hb3 hL2.out.lt)
  have hI3 := Lib.hid (hI2.out.below hb3 hI2.out.lt)
  have hM3 := Lib.hid (hM2.out.below hb3 hM2.out.lt)
  have hN3 := Lib.hid (hN2.out.below hb3 hN2.out.lt)
  have hb3' := Lib.hid (hb2.out.trans (hb3.mono hb2.out.size))
  replace hP3 := Lib.hid hP3
  clear hW3 hb3 hL2 hI2 hM2 hN2 hb2
  refine wp_loop_rounds 2 ?_
  rw [rounds_succ]
  go_wp2_with (first
    | (refine wpList_load_part rfl 115 (.tmp 31) rfl ib 0 rfl 115 (ds.map B ++ ri) (ds.map B) ri hI3.out (by simp) _ Tryz.underlying115 rfl (digSz hdl) ?_)
    | (refine wpList_store_blk rfl 115 (.tmp 10) (.tmp 32) rfl w3.heap.size (ds.map B) rfl rfl 115 zero32 (Blk.new_at rfl) (by simp [hdl, zero32]) (digSz hdl) (all_B _) ?_
       generalize hw1 : World.setRow _ w3.heap.size (ds.map B).toArray = w4
       have hD4 : Blk w4 w3.heap.size 115 (ds.map B) := by
         rw [← hw1]
         exact (Blk.new_at (w := w3) (t := 115) (cs := zero32) rfl).setRow_same (ds.map B)
       have hb4 : Below w3.heap.size w3 w4 := by
         rw [← hw1]
         exact below_setRow ((Below.refl w3.heap.size w3).alloc (Nat.le_refl _) (.cells zero32.toArray 115)) (Nat.le_refl _) (ds.map B).toArray
       clear hw1
       have hP4 := hP3.out.below hb4 hP3.out.lt
       have hM4 := hM3.out.below hb4 hM3.out.lt
       have hL4 := Lib.hid (hL3.out.below hb4 hL3.out.lt)
       have hI4 := Lib.hid (hI3.out.below hb4 hI3.out.lt)
       have hN4 := Lib.hid (hN3.out.below hb4 hN3.out.lt)
       have hb4' := Lib.hid (hb3'.out.trans (hb4.mono hb3'.out.size))
       have hrun := Lib.hid (hM4.look_some digKeys Tryz.underlying99 (by simpa using B_digK ds hdl) (B_digK ds hdl) (List.mem_singleton.2 rfl) (by simp) true)
       have p0 : w4.cell? ⟨w2.heap.size, 0, none⟩ = some (.slice (some ⟨nd, 0, none⟩) 1 cap) := hP4.cell 0
       have p1 : w4.cell? ⟨w2.heap.size, 1, none⟩ = some (.map (some qb)) := hP4.cell 1
       replace hP4 := Lib.hid hP4
       replace hM4 := Lib.hid hM4
       replace hD4 := Lib.hid hD4
       clear hb4
       go_frame)
    | (refine wpList_load_blk rfl 115 (.tmp 10) rfl w3.heap.size rfl 115 (ds.map B) hD4.out _ Tryz.underlying115 rfl (digSz hdl) ?_)
    | (refine wpList_value rfl (.tuple #[.int .i64 0, .bool true]) (exec_lookup 99 (.tmp 35) (.tmp 36) true rfl _ _ _ rfl rfl hrun.out) ?_; go_frame)
    | fail)
  rw [rounds_succ]
  go_wp2_with fail
  refine (hbeneath_one ds hdl nd cap qb ib ic pa pc rs ri _ hN4.out hM4.out hI4.out).mono ?_
  rintro e w5 ⟨sb, rfl, hS5, hsb, hb5⟩
  have hP5 := Lib.hid (hP4.out.below hb5 hP4.out.lt)
  have hL5 := Lib.hid (hL4.out.below hb5 hL4.out.lt)
  have hN5 := Lib.hid (hN4.out.below hb5 hN4.out.lt)
  have hb5' := Lib.hid (hb4'.out.trans (hb5.mono hb4'.out.size))
  clear hP4 hL4 hN4 hM4 hI4 hD4 hrun p0 p1 hb4' hb5
  replace hS5 := Lib.hid hS5
  go_wp2_with fail
  generalize hW6 : World.alloc w5 (Obj.cells _ 268) = w6
  have hV6 : Blk w6 w5.heap.size 268 [.slice (some ⟨nd, 0, none⟩) 1 cap, .map (some qb), .slice (some ⟨sb, 0, none⟩) 1 1] := by rw [← hW6]; exact Blk.new_at (cs := [.slice (some ⟨nd, 0, none⟩) 1 cap, .map (some qb), .slice (some ⟨sb, 0, none⟩) 1 1]) rfl
  have hb6 : Below w5.heap.size w5 w6 := by rw [← hW6]; exact (Below.refl _ _).alloc (Nat.le_refl _) _
  have hP6 := hP5.out.below hb6 hP5.out.lt
  have hL6 := hL5.out.below hb6 hL5.out.lt
  have hN6 := hN5.out.below hb6 hN5.out.lt
  have hS6 := hS5.out.below hb6 hS5.out.lt
  have hb6' := hb5'.out.trans (hb6.mono hb5'.out.size)
  clear hW6 hb6 hP5 hL5 hN5 hS5 hb5'
  refine (fnew_any _).mono ?_
  rintro e w7 ⟨tb, nb, mb, ab, rfl, hT7, e1, e2, e3, e4, hb7⟩
  have hV7 := hV6.below hb7 hV6.lt
  have hP7 := Lib.hid (hP6.below hb7 hP6.lt)
  have hL7 := hL6.below hb7 hL6.lt
  have hN7 := Lib.hid (hN6.below hb7 hN6.lt)
  have hS7 := hS6.below hb7 hS6.lt
  have hs6 := hb6'.size
  have hb7' := Lib.hid (hb6'.trans (hb7.mono hs6))
  clear hV6 hP6 hL6 hN6 hS6 hb7 hb6'
  have l0 : w7.cell? ⟨lb, 0, none⟩ = some nilS := hL7.cell 0
  have l1 : w7.cell? ⟨lb, 1, none⟩ = some (.string ⟨a.toArray⟩) := hL7.cell 1
  have l2 : w7.cell? ⟨lb, 2, none⟩ = some (.string ⟨#[]⟩) := hL7.cell 2
  have l3 : w7.cell? ⟨lb, 3, none⟩ = some (.slice OA t.length oc) := hL7.cell 3
  have v2 : ∀ o, (w7.alloc o).cell? ⟨w5.heap.size, 2, none⟩ = some (.slice (some ⟨sb, 0, none⟩) 1 1) := fun o => (hV7.alloc o).cell 2
  have s0 : ∀ o, (w7.alloc o).cell? ⟨sb, 0, none⟩ = some (.bool true) := fun o => (hS7.alloc o).cell 0
  replace hT7 := Lib.hid hT7
  replace hL7 := Lib.hid hL7
  replace hV7 := Lib.hid hV7
  replace hS7 := Lib.hid hS7
  go_wp2_with fail
  refine wp_loop_rounds 2 ?_
  rw [rounds_succ]
  go_wp2_with fail
  generalize hW8 : World.alloc w7 (Obj.cells _ 155) = w8
  have hX8 : Blk w8 w7.heap.size 155 (comL a (.slice OA t.length oc)) := by rw [← hW8]; exact Blk.new_at (cs := comL a (.slice OA t.length oc)) rfl
  have hb8 : Below w7.heap.size w7 w8 := by rw [← hW8]; exact (Below.refl _ _).alloc (Nat.le_refl _) _
  have hP8 := hP7.out.below hb8 hP7.out.lt
  have hN8 := hN7.out.below hb8 hN7.out.lt
  have hT8 := Lib.hid (hT7.out.below hb8)
  have hb8' := Lib.hid (hb7'.out.trans (hb8.mono hb7'.out.size))
  have p0 : w8.cell? ⟨w2.heap.size, 0, none⟩ = some (.slice (some ⟨nd, 0, none⟩) 1 cap) := hP8.cell 0
  have x3 : w8.cell? ⟨w7.heap.size, 3, none⟩ = some (.slice OA t.length oc) := hX8.cell 3
  have hN9 : Hid (∀ w', (∃ n, w' = w8.drewN n) → Blk w' nd 244 (nodeV ds (.slice pa 0 pc) ++ rs)) := Lib.hid (by rintro _ ⟨n, rfl⟩; exact hN8.drewN n)
  clear hW8 hb8 hX8 hN8 hP8 l0 l1 l2 l3 v2 s0 hL7 hV7 hS7 hT7 hP7 hN7 hb7'
  have i0 : (0 : Int) < ((1 : Nat) : Int) := by omega
  refine quiet_tail 9 (by kernel_rfl) (by kernel_rfl) ?_
  simp only [List.take_succ_cons, List.take_zero, List.drop_succ_cons, List.drop_zero]
  repeat (first
    | go_big_quiet_step (fail)
    | (refine wpQuiet_load_part 115 (.tmp 65) rfl rfl nd 0 rfl 244 (nodeV ds (.slice pa 0 pc) ++ rs) (ds.map B) (.slice pa 0 pc :: rs) hN9.out (by simp [nodeV]) _ Tryz.underlying115 rfl (digSz hdl) ?_; go_frame))
  refine wpQuiet_nil ?_
  rintro _ ⟨nq, rfl⟩
  have hs8 := hb8'.out.size
  have hb9 := Lib.hid (hb8'.out.trans ((Touch.drewN (w := w8) (L := []) nq).below hs8 (fun _ hi => by cases hi)))
  have hT9 := hT8.out.below ((Touch.drewN (w := w8) (L := []) nq).below (Nat.le_refl _) (fun _ hi => by cases hi))
  have hO9 := hO.out.stayB hb9.out
  go_wp2_with fail
  refine (add_chain t ht tb nb mb ab ds hdl _ (· < w.heap.size) (w8.drewN nq) hT9 (fun b hb hm => by
    simp at hm
    omega) (by omega) hO9).mono ?_
  rintro e w10 ⟨rfl, nf, rf, hst⟩
  obtain ⟨ns, hns⟩ := chain_at_ hst rfl t 0 rfl (by simp)
  have hbf := hb9.out.trans (hst.touch.below (by simpa using hs8) (fun i hi => by
    simp at hi
    omega))
  have hTf : TreeAt w10 tb nb mb ab t.length _ _ (rf 0) := ⟨hst.tree, hst.root, hst.by_, hst.added⟩
  replace hst := Lib.hid hst
  go_wp2_with fail
  rw [rounds_succ]
  go_wp2_with fail
  go_returns
  exact ⟨tb, nb, mb, ab, _, _, rf 0, ns, rfl, hTf, hns, hbf⟩
set_option maxRecDepth 100000 in
set_option maxHeartbeats 4000000 in
theorem htext_one (a t : Str) (o : Value) (lb lc ib ic : Nat) (rest ri : List Value) (w : World) (h : OpsIs w (· < w.heap.size) o (chain t)) (ha : nmOk a = true) (ht : t.length ≤ 1000) (hK : KeysIn w) (hL : Blk w lb 155 (comL a o ++ rest)) (hI : Blk w ib 115 ((idT a t).map B ++ ri)) :
    Calls Tryz.prog 122 #[.slice (some ⟨lb, 0, none⟩) 1 lc, .slice (some ⟨ib, 0, none⟩) 1 ic] w fun e w' => e = .returned (.tuple #[strV t, .int .i64 0]) ∧ Below w.heap.size w w' := by
  have hc := Lib.hid (htree_one a t o lb lc ib ic rest ri w h ha ht hK hL hI)
  clear h hK hL hI
  unfold strV
  go_enter Tryz.func122, Tryz.ntmps122
  go_wp2_with fail
  refine hc.out.mono ?_
  rintro e w2 ⟨tb, nb, mb, ab, es, us, v, ns, rfl, hT, hns, hb⟩
  have htx := text_chain (idT a t) (idT_len a t) t tb nb mb ab _ es us v ns w2 hT hns (by omega)
  unfold strV at htx
  replace htx := Lib.hid htx
  replace hb := Lib.hid hb
  clear hT hns
  go_wp2_with fail
  refine htx.out.mono ?_
  rintro e w3 ⟨rfl, hb3⟩
  have hbf := hb.out.trans (hb3.mono hb.out.size)
  go_wp2_with fail
  go_returns
  exact ⟨rfl, hbf⟩
end Go.Proofs.YtamdhaoglapnnaaGreatDoor
