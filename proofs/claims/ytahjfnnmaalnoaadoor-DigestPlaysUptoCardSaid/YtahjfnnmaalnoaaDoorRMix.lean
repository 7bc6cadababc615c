/- The walk of the reference's mix. -/
import Derived.Test.YtahjfnnmaalnoaaDoorRMixA
namespace Go.Proofs.YtahjfnnmaalnoaaDoor
open Go.RowKit

theorem wpList_runW {P : Program} {ops : Array Oper} {rest : List Oper} {o : Oper} {a : Act} {w : World} {Q : Exit → Act → World → Prop} (op : Op) (_ho : o.op = op) (hgd : o.guard = none) (v : Value) (w' : World)
    (hrun : (execOp a.eval o).run P w = .ok (.value v) w') (h : wpList P ops Q rest (a.put o.dst v) w') : wpList P ops Q (o :: rest) a w := by
  refine wpList_plain hgd fun _ hK => ?_
  unfold Oper.wp
  rw [hrun]
  exact hK _ _ h

theorem build8 (n0 n1 n2 n3 n4 n5 n6 n7 : Int) (w : World) : (Instr.buildSlice 52 8 #[(0, .int .u32 n0), (1, .int .u32 n1), (2, .int .u32 n2), (3, .int .u32 n3), (4, .int .u32 n4), (5, .int .u32 n5), (6, .int .u32 n6), (7, .int .u32 n7)]).run Tryd.prog w = .ok (.slice (some ⟨w.heap.size, 0, none⟩) 8 8) (w.alloc (.cells #[.int .u32 n0, .int .u32 n1, .int .u32 n2, .int .u32 n3, .int .u32 n4, .int .u32 n5, .int .u32 n6, .int .u32 n7] 43)) := by kernel_rfl
theorem wpList_build8 {ops : Array Oper} {rest : List Oper} {o : Oper} {a : Act} {w : World} {Q : Exit → Act → World → Prop} (x0 x1 x2 x3 x4 x5 x6 x7 : Operand) (ho : o.op = .buildSlice 52 8 #[(0, x0), (1, x1), (2, x2), (3, x3), (4, x4), (5, x5), (6, x6), (7, x7)]) (hgd : o.guard = none) (n0 n1 n2 n3 n4 n5 n6 n7 : Int)
    (h0 : a.eval x0 = .int .u32 n0) (h1 : a.eval x1 = .int .u32 n1) (h2 : a.eval x2 = .int .u32 n2) (h3 : a.eval x3 = .int .u32 n3) (h4 : a.eval x4 = .int .u32 n4) (h5 : a.eval x5 = .int .u32 n5) (h6 : a.eval x6 = .int .u32 n6) (h7 : a.eval x7 = .int .u32 n7)
    (h : wpList Tryd.prog ops Q rest (a.put o.dst (.slice (some ⟨w.heap.size, 0, none⟩) 8 8)) (w.alloc (.cells #[.int .u32 n0, .int .u32 n1, .int .u32 n2, .int .u32 n3, .int .u32 n4, .int .u32 n5, .int .u32 n6, .int .u32 n7] 43))) : wpList Tryd.prog ops Q (o :: rest) a w := by
  refine wpList_runW _ ho hgd _ _ ?_ h
  have e : (#[(0, x0), (1, x1), (2, x2), (3, x3), (4, x4), (5, x5), (6, x6), (7, x7)] : Array (Nat × Operand)).map (fun (i, x) => (i, a.eval x)) = #[(0, .int .u32 n0), (1, .int .u32 n1), (2, .int .u32 n2), (3, .int .u32 n3), (4, .int .u32 n4), (5, .int .u32 n5), (6, .int .u32 n6), (7, .int .u32 n7)] := by simp [h0, h1, h2, h3, h4, h5, h6, h7]
  simp only [execOp, ho, e, Sem.run_bind, build8, Result.andThen_ok, Sem.run_pure]

attribute [local go_sem] w_or w_xor w_and w_not w_not_max w_add_mod b2w_mod shl_8 shl_16 shl_24 shr_3 shr_10
set_option maxRecDepth 100000 in
set_option maxHeartbeats 40000000 in
theorem rmix_any (s : St) (sb so sc : Nat) (bb off cap : Nat) (blk : List UInt8) (w : World) (hbb : bb < w.heap.size) (hsb : sb < w.heap.size)
    (hcells : ∀ i, i < 64 → w.cell? ⟨bb, off + i, none⟩ = some (B (blk.getD i 0))) (hst : ∀ i, i < 8 → w.cell? ⟨sb, so + i, none⟩ = some (W (s.list.getD i 0))) :
    Calls Tryd.prog 28 #[.slice (some ⟨sb, so, none⟩) 8 sc, .slice (some ⟨bb, off, none⟩) 64 cap] w fun e w' =>
      (∃ g, e = .returned (.slice (some ⟨g, 0, none⟩) 8 8) ∧ w.heap.size ≤ g ∧ g < w'.heap.size ∧ ∀ i, i < 8 → w'.cell? ⟨g, i, none⟩ = some (W ((mixS s blk).list.getD i 0))) ∧ Below w.heap.size w w' := by
  have HC := Lib.hid hcells
  have HS := Lib.hid hst
  clear hcells hst
  go_enter Tryd.func28, Tryd.ntmps28
  go_wp2
  go_loopw [6, 5] (fun i v wr => ∃ k : Nat, k ≤ 16 ∧ i = .int .i64 k ∧ RM w (sched blk k) v wr) (fun i _ _ => 16 - (intOf i).toNat)
  case atStart => exact ⟨0, by omega, rfl, World.ownsRow_nil _ _ _ _, Below.refl _ _⟩
  case round =>
    obtain ⟨k, hk, rfl, hM⟩ := hrel
    by_cases hlt : k < 16
    · as_aux_lemma =>
        have hc0 : wr.cell? ⟨bb, off + 4 * k, none⟩ = some (B (blk.getD (4 * k) 0)) := by rw [hM.2.cell (p := ⟨bb, _, none⟩) hbb]; exact HC.out _ (by omega)
        have hc1 : wr.cell? ⟨bb, off + (4 * k + 1), none⟩ = some (B (blk.getD (4 * k + 1) 0)) := by rw [hM.2.cell (p := ⟨bb, _, none⟩) hbb]; exact HC.out _ (by omega)
        have hc2 : wr.cell? ⟨bb, off + (4 * k + 2), none⟩ = some (B (blk.getD (4 * k + 2) 0)) := by rw [hM.2.cell (p := ⟨bb, _, none⟩) hbb]; exact HC.out _ (by omega)
        have hc3 : wr.cell? ⟨bb, off + (4 * k + 3), none⟩ = some (B (blk.getD (4 * k + 3) 0)) := by rw [hM.2.cell (p := ⟨bb, _, none⟩) hbb]; exact HC.out _ (by omega)
        obtain ⟨A1, cap1, rfl, hcap1, _⟩ := own_form hM.1
        have hw16 := Lib.hid (be32_add (blk.getD (4 * k) 0) (blk.getD (4 * k + 1) 0) (blk.getD (4 * k + 2) 0) (blk.getD (4 * k + 3) 0))
        generalize hx0 : blk.getD (4 * k) 0 = x0 at hc0 hw16
        generalize hx1 : blk.getD (4 * k + 1) 0 = x1 at hc1 hw16
        generalize hx2 : blk.getD (4 * k + 2) 0 = x2 at hc2 hw16
        generalize hx3 : blk.getD (4 * k + 3) 0 = x3 at hc3 hw16
        replace hx0 := Lib.hid hx0
        replace hx1 := Lib.hid hx1
        replace hx2 := Lib.hid hx2
        replace hx3 := Lib.hid hx3
        obtain ⟨ws, hws⟩ : ∃ ws, ws = sched blk k := ⟨_, rfl⟩
        have hwl : ws.length = k := by rw [hws]; exact sched_length blk k
        rw [← hws] at hM hcap1 ⊢
        rw [hwl] at hcap1 ⊢
        replace hws := Lib.hid hws
        replace hwl := Lib.hid hwl
        go_wp2
        refine region_perm (C := fun w' => ∃ n, w' = wr.drewN n) [0] [1, 2, 3, 4, 5, 6, 7, 8, 9, 10, 11, 12, 13, 14, 15, 16, 17, 18, 19, 20, 21, 22, 23, 24, 25, 26, 27, 28, 29, 30, 31, 32, 33] 34 [35, 36] (by kernel_rfl) (by kernel_rfl) (fun _ d _ _ _ h => by cases d <;> exact h) ⟨1, rfl⟩ ?_
        simp only [pickOps, List.map_cons, List.map_nil, nthOp_zero, nthOp_succ]
        repeat (go_big_quiet_step (fail))
        refine wpQuiet_nil ?_
        repeat (go_big_quiet_step (fail))
        refine wpQuiet_nil ?_
        rintro _ ⟨nq, rfl⟩
        replace hM := rm_drewN hM nq
        clear hc0 hc1 hc2 hc3
        generalize wr.drewN nq = wr at hM ⊢
        replace hM : RM w ws (.slice A1 k cap1) wr := by have := hM; rwa [hwl.out] at this
        have hM1 := hM.1
        rw [hwl.out] at hM1
        have hsz := hM.2.size
        go_wp2_with (at_builtin; refine wpList_append_rd _ rfl (.tmp 25) (.tmp 59) 52 rfl w.heap.size 43 (W 0) 1 4 Tryd.underlying52 info32 (.slice A1 k cap1) k (ws.map W) rfl (own_alloc hM1 _) (fun _ => True) (some ⟨wr.heap.size, 0, none⟩) 1 1 [_] rfl rfl (rd_one wr _ _) (by simp [Value.oneCell']) (by unfold maxLen; omega) (by omega) (by simp; omega) ?_; intro v' w4 hown4 hg4 _)
        go_roundw
        case rel =>
          refine ⟨k + 1, by omega, by go_num, ?_⟩
          rw [sched_lo blk k hlt, ← hws.out]
          unfold word16
          rw [hx0.out, hx1.out, hx2.out, hx3.out, ← hw16.out]
          exact rm_grow hM hwl.out hown4 hg4
        case measure => simp [intOf]; omega
    · as_aux_lemma =>
        obtain ⟨k1, hk1⟩ : ∃ k1, k1 = k := ⟨_, rfl⟩
        rw [← hk1] at hM hlt hk ⊢
        have hk16 : k1 = 16 := by omega
        rw [hk16] at hM
        have hge : 16 ≤ k1 := by omega
        clear hk16 hk1
        obtain ⟨w1, rfl⟩ : ∃ w1 : World, w1 = wr := ⟨_, rfl⟩
        go_wp2
        go_loopw [7, 5, 8, 9] (fun i v _ _ wr => ∃ k : Nat, 16 ≤ k ∧ k ≤ 64 ∧ i = .int .i64 k ∧ RM w (sched blk k) v wr) (fun i _ _ _ _ => 64 - (intOf i).toNat)
        case atStart => exact ⟨16, by omega, by omega, rfl, hM⟩
        case round =>
          clear hM
          obtain ⟨k, hk16, hk, rfl, hM⟩ := hrel
          by_cases hlt : k < 64
          · as_aux_lemma =>
              obtain ⟨ws, hws⟩ : ∃ ws, ws = sched blk k := ⟨_, rfl⟩
              have hwl : ws.length = k := by rw [hws]; exact sched_length blk k
              rw [← hws] at hM
              replace hws := Lib.hid hws
              obtain ⟨g1, cap1, rfl, hg1, hg1lt, hcap1, hcell⟩ := own_at hM.1 (by omega)
              replace hM : RM w ws (.slice (some ⟨g1, 0, none⟩) k cap1) wr := by have := hM; rwa [hwl] at this
              rw [hwl] at hcap1 ⊢
              have hx15 := hcell (k - 15) (W (ws.getD (k - 15) 0)) (map_W_at _ _ (by omega))
              have hx2 := hcell (k - 2) (W (ws.getD (k - 2) 0)) (map_W_at _ _ (by omega))
              have hx16 := hcell (k - 16) (W (ws.getD (k - 16) 0)) (map_W_at _ _ (by omega))
              have hx7 := hcell (k - 7) (W (ws.getD (k - 7) 0)) (map_W_at _ _ (by omega))
              clear hcell
              generalize hy15 : ws.getD (k - 15) 0 = x15 at hx15
              generalize hy2 : ws.getD (k - 2) 0 = x2 at hx2
              generalize hy16 : ws.getD (k - 16) 0 = x16 at hx16
              generalize hy7 : ws.getD (k - 7) 0 = x7 at hx7
              replace hy15 := Lib.hid hy15
              replace hy2 := Lib.hid hy2
              replace hy16 := Lib.hid hy16
              replace hy7 := Lib.hid hy7
              replace hwl := Lib.hid hwl
              go_wp2
              go_quiet ((go_at_call 32; exact quiet_same (turn_int _ _ _ (by decide) (by decide)) rfl))
              replace hM := rm_drewN hM nq
              replace hx2 : (wr.drewN nq).cell? ⟨g1, k - 2, none⟩ = some (W x2) := hx2
              replace hx16 : (wr.drewN nq).cell? ⟨g1, k - 16, none⟩ = some (W x16) := hx16
              replace hx7 : (wr.drewN nq).cell? ⟨g1, k - 7, none⟩ = some (W x7) := hx7
              clear hx15 hg1lt
              generalize wr.drewN nq = wr at hM hx2 hx16 hx7 ⊢
              go_wp2
              go_quiet ((go_at_call 32; exact quiet_same (turn_int _ _ _ (by decide) (by decide)) rfl))
              replace hM := rm_drewN hM nq
              replace hx16 : (wr.drewN nq).cell? ⟨g1, k - 16, none⟩ = some (W x16) := hx16
              replace hx7 : (wr.drewN nq).cell? ⟨g1, k - 7, none⟩ = some (W x7) := hx7
              clear hx2
              generalize wr.drewN nq = wr at hM hx16 hx7 ⊢
              go_wp2
              refine region_perm (C := fun w' => ∃ n, w' = wr.drewN n) [0] [1, 2, 3, 4, 5, 6, 7, 8, 9, 10, 11, 12, 13, 14, 15] 16 [17, 18] (by kernel_rfl) (by kernel_rfl) (fun _ d _ _ _ h => by cases d <;> exact h) ⟨1, rfl⟩ ?_
              simp only [pickOps, List.map_cons, List.map_nil, nthOp_zero, nthOp_succ]
              repeat (go_big_quiet_step (fail))
              refine wpQuiet_nil ?_
              repeat (go_big_quiet_step (fail))
              refine wpQuiet_nil ?_
              rintro _ ⟨nq, rfl⟩
              replace hM := rm_drewN hM nq
              clear hx16 hx7
              generalize wr.drewN nq = wr at hM ⊢
              have hM1 := hM.1
              rw [hwl.out] at hM1
              have hsz := hM.2.size
              go_wp2_with (at_builtin; refine wpList_append_rd _ rfl (.tmp 105) (.tmp 121) 52 rfl w.heap.size 43 (W 0) 1 4 Tryd.underlying52 info32 (.slice (some ⟨g1, 0, none⟩) k cap1) k (ws.map W) rfl (own_alloc hM1 _) (fun _ => True) (some ⟨wr.heap.size, 0, none⟩) 1 1 [_] rfl rfl (rd_one wr _ _) (by simp [Value.oneCell']) (by unfold maxLen; omega) (by omega) (by simp; omega) ?_; intro v' w4 hown4 hg4 _)
              go_roundw
              case rel =>
                refine ⟨k + 1, by omega, by omega, by go_num, ?_⟩
                rw [sched_hi blk k hk16, ← hws.out]
                unfold nextW
                rw [hy15.out, hy2.out, hy16.out, hy7.out]
                exact rm_grow hM hwl.out hown4 hg4
              case measure => simp [intOf]; omega
          · as_aux_lemma =>
              obtain ⟨k2, hk2⟩ : ∃ k2, k2 = k := ⟨_, rfl⟩
              rw [← hk2] at hM hlt hk ⊢
              have hk64 : k2 = 64 := by omega
              rw [hk64] at hM
              have hge2 : 64 ≤ k2 := by omega
              clear hk64 hk2 hk16
              obtain ⟨w2, rfl⟩ : ∃ w2 : World, w2 = wr := ⟨_, rfl⟩
              obtain ⟨ws, hws⟩ : ∃ ws, ws = sched blk 64 := ⟨_, rfl⟩
              have hwl : ws.length = 64 := by rw [hws]; exact sched_length blk 64
              rw [← hws] at hM
              replace hws := Lib.hid hws
              obtain ⟨g1, cap1, rfl, hg1, hg1lt, hcap1, hcell⟩ := own_at hM.1 (by omega)
              have hbl := hM.2
              rw [hwl] at hcap1 ⊢
              replace hcell : ∀ i, i < 64 → w2.cell? ⟨g1, i, none⟩ = some (W (ws.getD i 0)) := fun i hi => hcell i _ (map_W_at _ _ (by omega))
              replace hcell := Lib.hid hcell
              replace hwl := Lib.hid hwl
              clear hM
              have hs0 : w2.cell? ⟨sb, so, none⟩ = some (W s.a) := by rw [hbl.cell (p := ⟨sb, _, none⟩) hsb]; exact HS.out 0 (by omega)
              have hs1 : w2.cell? ⟨sb, so + 1, none⟩ = some (W s.b) := by rw [hbl.cell (p := ⟨sb, _, none⟩) hsb]; exact HS.out 1 (by omega)
              have hs2 : w2.cell? ⟨sb, so + 2, none⟩ = some (W s.c) := by rw [hbl.cell (p := ⟨sb, _, none⟩) hsb]; exact HS.out 2 (by omega)
              have hs3 : w2.cell? ⟨sb, so + 3, none⟩ = some (W s.d) := by rw [hbl.cell (p := ⟨sb, _, none⟩) hsb]; exact HS.out 3 (by omega)
              have hs4 : w2.cell? ⟨sb, so + 4, none⟩ = some (W s.e) := by rw [hbl.cell (p := ⟨sb, _, none⟩) hsb]; exact HS.out 4 (by omega)
              have hs5 : w2.cell? ⟨sb, so + 5, none⟩ = some (W s.f) := by rw [hbl.cell (p := ⟨sb, _, none⟩) hsb]; exact HS.out 5 (by omega)
              have hs6 : w2.cell? ⟨sb, so + 6, none⟩ = some (W s.g) := by rw [hbl.cell (p := ⟨sb, _, none⟩) hsb]; exact HS.out 6 (by omega)
              have hs7 : w2.cell? ⟨sb, so + 7, none⟩ = some (W s.h) := by rw [hbl.cell (p := ⟨sb, _, none⟩) hsb]; exact HS.out 7 (by omega)
              go_wp2
              go_quiet (fail)
              have hb1 := below_drewN (Below.refl w2.heap.size w2) nq
              go_wp2
              go_quiet (fail)
              have hb2 := below_drewN hb1 nq
              clear hb1
              go_wp2
              go_loopw [18, 10, 11, 12, 13, 14, 15, 16, 17, 19, 20] (fun i a b c d e f g h _ _ wr => ∃ (k : Nat) (v : St), k ≤ 64 ∧ i = .int .i64 k ∧ v = rnds ws s k ∧ a = W v.a ∧ b = W v.b ∧ c = W v.c ∧ d = W v.d ∧ e = W v.e ∧ f = W v.f ∧ g = W v.g ∧ h = W v.h ∧ Below w2.heap.size w2 wr) (fun i _ _ _ _ _ _ _ _ _ _ _ => 64 - (intOf i).toNat)
              case atStart => exact ⟨0, s, by omega, rfl, rfl, rfl, rfl, rfl, rfl, rfl, rfl, rfl, rfl, hb2⟩
              case round =>
                clear hb2 hs0 hs1 hs2 hs3 hs4 hs5 hs6 hs7
                obtain ⟨k, v, hk, rfl, hv, rfl, rfl, rfl, rfl, rfl, rfl, rfl, rfl, hb3⟩ := hrel
                by_cases hlt : k < 64
                · as_aux_lemma =>
                    have hrow : wr.cell? ⟨g1, k, none⟩ = some (W (ws.getD k 0)) := by rw [hb3.cell (p := ⟨g1, k, none⟩) hg1lt]; exact hcell.out k hlt
                    generalize hx : ws.getD k 0 = x at hrow
                    generalize hy : keysL.getD k 0 = y
                    replace hx := Lib.hid hx
                    have hkey := Lib.hid (fun S hS => rword_key S hS k hlt y hy)
                    replace hy := Lib.hid hy
                    replace hv := Lib.hid hv
                    go_wp2
                    go_quiet (first
                      | (go_at_call 32; exact quiet_same (turn_int _ _ _ (by decide) (by decide)) rfl)
                      | (go_at_call 26; exact quiet_same (hkey.out _ (by kernel_rfl) _) rfl))
                    go_wp2_with (go_at_call 32; refine (turn_int _ _ _ (by decide) (by decide)).mono ?_; rintro e w' ⟨rfl, rfl⟩)
                    go_roundw
                    case rel =>
                      refine ⟨k + 1, rnd y x v, by omega, by go_num, ?_, ?_, rfl, rfl, rfl, ?_, rfl, rfl, rfl, below_drewN hb3 nq⟩
                      · rw [rnds, ← hv.out, hx.out, hy.out]
                      · simp only [not_u32, w_not_max, w_and, w_xor, w_sumA]
                        rfl
                      · simp only [not_u32, w_not_max, w_and, w_xor, w_sumT]
                        rfl
                    case measure => simp [intOf]; omega
                · as_aux_lemma =>
                    obtain ⟨k3, hk3⟩ : ∃ k3, k3 = k := ⟨_, rfl⟩
                    rw [← hk3] at hlt hk hv ⊢
                    have hk64 : k3 = 64 := by omega
                    rw [hk64] at hv
                    have hge3 : 64 ≤ k3 := by omega
                    clear hk64 hk3
                    have hb4 := hbl.trans (hb3.mono hbl.size)
                    have hs0 : wr.cell? ⟨sb, so, none⟩ = some (W s.a) := by rw [hb4.cell (p := ⟨sb, _, none⟩) hsb]; exact HS.out 0 (by omega)
                    have hs1 : wr.cell? ⟨sb, so + 1, none⟩ = some (W s.b) := by rw [hb4.cell (p := ⟨sb, _, none⟩) hsb]; exact HS.out 1 (by omega)
                    have hs2 : wr.cell? ⟨sb, so + 2, none⟩ = some (W s.c) := by rw [hb4.cell (p := ⟨sb, _, none⟩) hsb]; exact HS.out 2 (by omega)
                    have hs3 : wr.cell? ⟨sb, so + 3, none⟩ = some (W s.d) := by rw [hb4.cell (p := ⟨sb, _, none⟩) hsb]; exact HS.out 3 (by omega)
                    have hs4 : wr.cell? ⟨sb, so + 4, none⟩ = some (W s.e) := by rw [hb4.cell (p := ⟨sb, _, none⟩) hsb]; exact HS.out 4 (by omega)
                    have hs5 : wr.cell? ⟨sb, so + 5, none⟩ = some (W s.f) := by rw [hb4.cell (p := ⟨sb, _, none⟩) hsb]; exact HS.out 5 (by omega)
                    have hs6 : wr.cell? ⟨sb, so + 6, none⟩ = some (W s.g) := by rw [hb4.cell (p := ⟨sb, _, none⟩) hsb]; exact HS.out 6 (by omega)
                    have hs7 : wr.cell? ⟨sb, so + 7, none⟩ = some (W s.h) := by rw [hb4.cell (p := ⟨sb, _, none⟩) hsb]; exact HS.out 7 (by omega)
                    replace hv := Lib.hid hv
                    go_wp2
                    refine quiet_tail 40 (by kernel_rfl) (by kernel_rfl) ?_
                    simp only [List.take_succ_cons, List.take_zero, List.drop_succ_cons, List.drop_zero]
                    repeat (go_big_quiet_step (fail))
                    refine wpQuiet_nil ?_
                    rintro _ ⟨nq, rfl⟩
                    have hb5 := below_drewN hb4 nq
                    clear hs0 hs1 hs2 hs3 hs4 hs5 hs6 hs7 hb3
                    generalize wr.drewN nq = w5 at hb5 ⊢
                    simp only [w_add_mod]
                    refine wpList_build8 (.tmp 214) (.tmp 219) (.tmp 224) (.tmp 229) (.tmp 234) (.tmp 239) (.tmp 244) (.tmp 249) rfl rfl (wv (s.a + v.a)) (wv (s.b + v.b)) (wv (s.c + v.c)) (wv (s.d + v.d)) (wv (s.e + v.e)) (wv (s.f + v.f)) (wv (s.g + v.g)) (wv (s.h + v.h)) (by rfl) (by rfl) (by rfl) (by rfl) (by rfl) (by rfl) (by rfl) (by rfl) ?_
                    have hmap : ([s.a + v.a, s.b + v.b, s.c + v.c, s.d + v.d, s.e + v.e, s.f + v.f, s.g + v.g, s.h + v.h].map W).toArray = #[W (s.a + v.a), W (s.b + v.b), W (s.c + v.c), W (s.d + v.d), W (s.e + v.e), W (s.f + v.f), W (s.g + v.g), W (s.h + v.h)] := rfl
                    rw [← hmap]
                    clear hmap
                    have hmix : (mixS s blk).list = [s.a + v.a, s.b + v.b, s.c + v.c, s.d + v.d, s.e + v.e, s.f + v.f, s.g + v.g, s.h + v.h] := by
                      unfold mixS
                      rw [← hws.out, ← hv.out]
                      simp [addS, St.list, UInt32.add_comm]
                    have hpost : (∃ g, Ending.returned (.slice (some ⟨w5.heap.size, 0, none⟩) 8 8) = .returned (.slice (some ⟨g, 0, none⟩) 8 8) ∧ w.heap.size ≤ g ∧ g < (w5.alloc (.cells ([s.a + v.a, s.b + v.b, s.c + v.c, s.d + v.d, s.e + v.e, s.f + v.f, s.g + v.g, s.h + v.h].map W).toArray 43)).heap.size ∧ ∀ i, i < 8 → (w5.alloc (.cells ([s.a + v.a, s.b + v.b, s.c + v.c, s.d + v.d, s.e + v.e, s.f + v.f, s.g + v.g, s.h + v.h].map W).toArray 43)).cell? ⟨g, i, none⟩ = some (W ((mixS s blk).list.getD i 0))) ∧
                        Below w.heap.size w (w5.alloc (.cells ([s.a + v.a, s.b + v.b, s.c + v.c, s.d + v.d, s.e + v.e, s.f + v.f, s.g + v.g, s.h + v.h].map W).toArray 43)) := by
                      refine ⟨⟨w5.heap.size, rfl, hb5.size, by simp, fun i hi => ?_⟩, hb5.alloc hb5.size _⟩
                      rw [hmix]
                      exact mem8 w5 43 [s.a + v.a, s.b + v.b, s.c + v.c, s.d + v.d, s.e + v.e, s.f + v.f, s.g + v.g, s.h + v.h] i hi
                    clear hmix hb5
                    replace hpost := Lib.hid hpost
                    generalize w5.alloc (.cells ([s.a + v.a, s.b + v.b, s.c + v.c, s.d + v.d, s.e + v.e, s.f + v.f, s.g + v.g, s.h + v.h].map W).toArray 43) = w6 at hpost ⊢
                    generalize w5.heap.size = g5 at hpost ⊢
                    go_wp2
                    go_ret
                    exact hpost.out
end Go.Proofs.YtahjfnnmaalnoaaDoor
