/- The walk of DigestPlays. -/
import Derived.Test.YtahjfnnmaalnoaaDoorPlaysA
import Derived.Test.YtahjfnnmaalnoaaDoorWalkSums
namespace Go.Proofs.YtahjfnnmaalnoaaDoor
open Go.RowKit

abbrev ActL := List (Int × Bool × List UInt8)
def act0 : Int × Bool × List UInt8 := (0, false, [])
/-- A slice of acts. -/
def ActsIn (w : World) (A : Option Addr) (acts : ActL) : Prop :=
  ∀ k, k < acts.length → ∃ b off Ak ck, A = some ⟨b, off, none⟩ ∧ b < w.heap.size ∧ w.cell? ⟨b, off + k * 3, none⟩ = some (.int .i64 (acts.getD k act0).1) ∧ w.cell? ⟨b, off + k * 3 + 1, none⟩ = some (.bool (acts.getD k act0).2.1) ∧
    w.cell? ⟨b, off + k * 3 + 2, none⟩ = some (.slice Ak (acts.getD k act0).2.2.length ck) ∧ (acts.getD k act0).2.2.length ≤ ck ∧ Rd w (· < w.heap.size) Ak ((acts.getD k act0).2.2.map B)
/-- How many bytes the first k acts bear. -/
def totA (acts : ActL) : Nat → Nat
  | 0 => 0
  | k + 1 => totA acts k + (acts.getD k act0).2.2.length
theorem totA_mono (acts : ActL) : ∀ (n k : Nat), k ≤ n → totA acts k ≤ totA acts n
  | 0, k, h => by have : k = 0 := by omega
                  subst this; exact Nat.le_refl _
  | n + 1, k, h => by
    by_cases e : k = n + 1
    · subst e; exact Nat.le_refl _
    · have := totA_mono acts n k (by omega)
      simp only [totA]; omega
theorem zerosAct : (Tryd.prog.info? 41).map (fun i => (i.zero, i.size)) = some (some (.agg #[.int .i64 0, .bool false, .slice none 0 0]), 3) := by kernel_rfl
theorem make2 (w : World) : (Instr.makeSlice 31 (.int .i64 2) (.int .i64 2)).run Tryd.prog w = .ok (.slice (some ⟨w.heap.size, 0, none⟩) 2 2) (w.alloc (.cells #[.slice none 0 0, .slice none 0 0] 22)) := by kernel_rfl

theorem pl_start {w w2 : World} {g0 g1 : Nat} (hbw : Below w.heap.size w w2) (h0 : HashIs w2 g0 []) (h1 : HashIs w2 g1 []) (hne : g0 ≠ g1) (hg0 : w.heap.size ≤ g0) (hg1 : w.heap.size ≤ g1) :
    PL w w2.heap.size (w2.heap.size + 1) (fun k => if k = 0 then g0 else g1) (fun _ => .slice none 0 0) (fun _ => []) (fun _ => [])
      ((w2.alloc (.cells #[.pointer (some ⟨g0, 0, none⟩), .pointer (some ⟨g1, 0, none⟩)] 32)).alloc (.cells #[.slice none 0 0, .slice none 0 0] 22)) := by
  have hb1 : Below w2.heap.size w2 ((w2.alloc (.cells #[.pointer (some ⟨g0, 0, none⟩), .pointer (some ⟨g1, 0, none⟩)] 32)).alloc (.cells #[.slice none 0 0, .slice none 0 0] 22)) := ((Below.refl _ _).alloc (Nat.le_refl _) _).alloc (by simp) _
  refine ⟨(Blk.new_at (cs := [.pointer (some ⟨g0, 0, none⟩), .pointer (some ⟨g1, 0, none⟩)]) rfl).alloc _, Blk.new_at (cs := [.slice none 0 0, .slice none 0 0]) (by simp), ?_, fun k _ => World.ownsRow_nil _ _ _ _, ?_, ?_, hbw.size, by have := hbw.size; omega, ?_, hbw.trans (hb1.mono hbw.size)⟩
  · intro k hk
    match k, hk with
    | 0, _ => exact hashIs_keep h0 (hb1.block _ (hashIs_lt h0))
    | 1, _ => exact hashIs_keep h1 (hb1.block _ (hashIs_lt h1))
  · intro k j hk hj hkj
    obtain ⟨rfl, rfl⟩ | ⟨rfl, rfl⟩ : (k = 0 ∧ j = 1) ∨ (k = 1 ∧ j = 0) := by omega
    · simpa using hne
    · simpa using hne.symm
  · intro k j _ _ _ b hb
    simp [Value.ownBlock] at hb
  · intro k _
    by_cases e : k = 0
    · simp [e, hg0]
    · simp [e, hg1]
theorem wpQuiet_neq_dig {ops : Array Oper} {rest : List Oper} {o : Oper} {a : Act} {C : World → Prop} {Q : Act → Prop} (x y : Operand) (yt : TypeId) (ho : o.op = .binOp .neq 24 x y yt) (hw : Region.wanted o (yielded ops a.tmps) = true)
    (xs ys : List UInt8) (hxe : a.eval x = .agg (xs.map B).toArray) (hye : a.eval y = .agg (ys.map B).toArray) (hx : xs.length = 32) (hy : ys.length = 32) (r : Bool) (hr : (!(xs == ys)) = r)
    (h : wpQuiet Tryd.prog ops C Q rest (a.put o.dst (.bool r))) : wpQuiet Tryd.prog ops C Q (o :: rest) a :=
  wpQuiet_run_g _ ho hw _ (fun w _ => by rw [exec_neq_dig w ho xs ys hxe hye hx hy, hr]) h
/-- What the walk asks of hash j and of row j, in every world over one. -/
theorem pl_over {w w5 : World} {gh ga : Nat} {G : Nat → Nat} {V : Nat → Value} {M : Nat → List UInt8} (hP : PL w gh ga G V M M w5) (hK : KeysIn w) {j : Nat} (hj : j < 2) (hl : (M j).length ≤ 1048576) :
    ∃ Aj cj, V j = .slice Aj (M j).length cj ∧ (M j).length ≤ cj ∧ (∀ s : Over w5, s.1.cell? ⟨gh, j, none⟩ = some (.pointer (some ⟨G j, 0, none⟩))) ∧ (∀ s : Over w5, s.1.cell? ⟨ga, j, none⟩ = some (.slice Aj (M j).length cj)) ∧
      (∀ s : Over w5, Calls Tryd.prog 20 #[.pointer (some ⟨G j, 0, none⟩)] s.1 fun e w' => e = .returned (.agg ((shaOf (M j)).map B).toArray) ∧ Below s.1.heap.size s.1 w') ∧
      (∀ s : Over w5, Calls Tryd.prog 13 #[.slice Aj (M j).length cj] s.1 fun e w' => e = .returned (.agg ((shaOf (M j)).map B).toArray) ∧ Below s.1.heap.size s.1 w') ∧
      (∀ s : Over w5, Calls Tryd.prog 21 #[.pointer (some ⟨G j, 0, none⟩)] s.1 fun e w' => e = .returned (.int .i64 ((M j).length : Int)) ∧ Below s.1.heap.size s.1 w') := by
  obtain ⟨Aj, cj, hVj, hcap, _⟩ := own_form (hP.o j hj)
  have hPs : ∀ s : Over w5, PL w gh ga G V M M s.1 := fun s => hP.keep s.2
  refine ⟨Aj, cj, hVj, hcap, fun s => (hPs s).cellH hj, fun s => by rw [(hPs s).cellA hj, hVj], fun s => ?_, fun s => ?_, fun s => ?_⟩
  · exact hsum_any (G j) (M j) s.1 ((hPs s).i j hj) (by omega) (keys_below hK (hPs s).below)
  · have ho := (hPs s).o j hj
    rw [hVj] at ho
    exact rsum_any (M j) Aj cj s.1 ((own_rd ho).weak (fun b hb _ => hb)) (by omega)
  · refine (hlen_any (G j) (M j) s.1 ((hPs s).i j hj)).mono ?_
    rintro e w' ⟨rfl, rfl⟩
    exact ⟨rfl, Below.refl _ _⟩
theorem own_base {w : World} {base base' : Nat} {e : TypeId} {v : Value} {n : Nat} {xs : List Value} (h : w.ownsRow base e 1 v n xs) (hb : base' ≤ base) : w.ownsRow base' e 1 v n xs := by
  refine ⟨h.1, ?_⟩
  rcases h.2 with h0 | ⟨g, cap, cur, h1, h2, h3⟩
  · exact .inl h0
  · exact .inr ⟨g, cap, cur, h1, Nat.le_trans hb h2, h3⟩
theorem own_empty_at (w : World) (t : TypeId) (g : Nat) (h : g = w.heap.size) : (w.alloc (.cells #[] t)).ownsRow w.heap.size t 1 (.slice (some ⟨g, 0, none⟩) 0 0) 0 [] := by subst h; exact own_empty w t
theorem rb_copy {w w' : World} {xs : List UInt8} {v v' : Value} {g : Nat} (hv : v = .slice (some ⟨g, 0, none⟩) 0 0) (h : g = w.heap.size) (hown : w'.ownsRow w.heap.size 5 1 v' (0 + xs.length) ([] ++ xs.map B)) (hg : (w.alloc (.cells #[] 5)).grownBy w' v.ownBlock) : RB w xs v' w' := by
  subst hv h
  have := rb_more (xs := xs) (rb_empty w) (by simpa using hown) hg
  simpa using this
set_option maxRecDepth 100000 in
set_option maxHeartbeats 8000000 in
theorem plays_any (acts : ActL) (A : Option Addr) (cap : Nat) (w : World) (hA : ActsIn w A acts) (htot : totA acts acts.length ≤ 1048576) (hn : acts.length ≤ 1048576) (hK : KeysIn w) :
    Calls Tryd.prog 8 #[.slice A acts.length cap] w fun e w' => e = .returned (.bool true) ∧ Below w.heap.size w w' := by
  have hzA := (zero_of_info zerosAct).1
  have hmk := make2
  obtain ⟨n, hnn⟩ : ∃ n, n = acts.length := ⟨_, rfl⟩
  rw [← hnn] at hn htot ⊢
  replace hnn := Lib.hid hnn
  replace htot := Lib.hid htot
  replace hA := Lib.hid hA
  go_enter Tryd.func8, Tryd.ntmps8
  go_wp2_with fail
  refine (new_any _).mono ?_
  rintro e w1 ⟨g0, rfl, hg0, hB0, hb1⟩
  have hH0 := hashIs_new hB0
  clear hB0
  go_wp2_with fail
  refine (new_any _).mono ?_
  rintro e w2 ⟨g1, rfl, hg1, hB1, hb2⟩
  have hH1 := hashIs_new hB1
  have hH0' := hashIs_keep hH0 (hb2.block _ (hashIs_lt hH0))
  have hlt0 := hashIs_lt hH0
  have hbw2 := hb1.trans (hb2.mono hb1.size)
  clear hB1 hH0 hb1
  have hsz := hb2.size
  have hP := pl_start hbw2 hH0' hH1 (by omega) hg0 (by have := hbw2.size; omega)
  go_wp2_with fail
  refine (alive_any _ (keys_below hK hP.below)).mono ?_
  rintro e w3 ⟨rfl, hb3⟩
  replace hP := hP.keep hb3
  clear hb3 hH0' hH1 hb2 hg0 hg1 hlt0 hbw2 hmk
  generalize w2.heap.size = gh at *
  obtain ⟨ga, hga⟩ : ∃ ga, ga = gh + 1 := ⟨_, rfl⟩
  rw [← hga] at hP ⊢
  clear hga hsz
  go_wp2
  go_loopw [30] (fun i wr => ∃ (k : Nat) (G : Nat → Nat) (V : Nat → Value) (M : Nat → List UInt8), k ≤ n ∧ i = .int .i64 (k : Int) ∧ PL w gh ga G V M M wr ∧ ∀ j, j < 2 → (M j).length ≤ totA acts k) (fun i _ => n - (intOf i).toNat)
  case atStart => exact ⟨0, _, _, _, Nat.zero_le _, rfl, hP, fun j _ => Nat.le_refl _⟩
  case round =>
    clear hP
    obtain ⟨k, G, V, M, hk, rfl, hP, hM⟩ := hrel
    have hMb : ∀ j, j < 2 → (M j).length ≤ 1048576 := fun j hj => Nat.le_trans (hM j hj) (Nat.le_trans (totA_mono acts n k hk) htot.out)
    replace hM := Lib.hid hM
    replace hMb := Lib.hid hMb
    by_cases hlt : k < n
    · obtain ⟨b, off, Ak, ck, rfl, hbw, hc0, hc1, hc2, hlk, hrd⟩ := hA.out k (by rw [← hnn.out]; exact hlt)
      rw [← hP.below.cell (p := ⟨b, _, none⟩) hbw] at hc0 hc1 hc2
      have htk : totA acts (k + 1) = totA acts k + (acts.getD k act0).2.2.length := rfl
      have htb : totA acts (k + 1) ≤ 1048576 := Nat.le_trans (totA_mono acts n (k + 1) hlt) htot.out
      generalize acts.getD k act0 = a at *
      obtain ⟨kind, two, xs⟩ := a
      simp only at hc0 hc1 hc2 hlk hrd htk
      have hxl : xs.length ≤ 1048576 := by omega
      replace htk := Lib.hid htk
      replace htb := Lib.hid htb
      have hac : PL w gh ga G V M M (wr.alloc (.cells #[.int .i64 kind, .bool two, .slice Ak xs.length ck] 41)) := hP.keep ((Below.refl _ _).alloc (Nat.le_refl _) _)
      have hrd2 : Rd (wr.alloc (.cells #[.int .i64 kind, .bool two, .slice Ak xs.length ck] 41)) (· < w.heap.size) Ak (xs.map B) := hrd.below hac.below
      have hBa : Blk (wr.alloc (.cells #[.int .i64 kind, .bool two, .slice Ak xs.length ck] 41)) wr.heap.size 41 [.int .i64 kind, .bool two, .slice Ak xs.length ck] := Blk.new_at rfl
      have hgeh := hP.lh
      obtain ⟨j, hj, hjt⟩ : ∃ j : Nat, j < 2 ∧ ((two = false ∧ j = 0) ∨ (two = true ∧ j = 1)) := by
        cases two
        · exact ⟨0, by omega, .inl ⟨rfl, rfl⟩⟩
        · exact ⟨1, by omega, .inr ⟨rfl, rfl⟩⟩
      have hM2 : ∀ i, i < 2 → (M i).length ≤ totA acts (k + 1) := fun i hi => by have := hM.out i hi; have := htk.out; omega
      replace hM2 := Lib.hid hM2
      by_cases k0 : kind = 0
      · have b0 : (kind == 0) = true := by simp [k0]
        clear k0
        rcases hjt with ⟨rfl, rfl⟩ | ⟨rfl, rfl⟩
        · as_aux_lemma =>
            have hsz5 : wr.heap.size + 1 = (wr.alloc (.cells #[.int .i64 kind, .bool false, .slice Ak xs.length ck] 41)).heap.size := by simp
            replace hsz5 := Lib.hid hsz5
            have hwl : w.heap.size ≤ (wr.alloc (.cells #[.int .i64 kind, .bool false, .slice Ak xs.length ck] 41)).heap.size := hac.below.size
            go_wp2_with (first
              | (at_builtin
                 refine wpList_append_rd _ rfl (.tmp 40) (.tmp 42) 22 rfl (wr.alloc (.cells #[.int .i64 kind, .bool false, .slice Ak xs.length ck] 41)).heap.size 5 (B 0) 1 1 Tryd.underlying22 info8 (.slice (some ⟨wr.heap.size + 1, 0, none⟩) 0 0) 0 [] rfl (own_empty_at (wr.alloc (.cells #[.int .i64 kind, .bool false, .slice Ak xs.length ck] 41)) _ _ hsz5.out) (· < w.heap.size) Ak xs.length ck (xs.map B) rfl (by simp) (hrd2.below (((Below.refl _ _).alloc (Nat.le_refl _) _).mono hwl)) (all_B _) (by unfold maxLen; omega) (by omega) (by simp) ?_
                 intro vb w6 hown6 hg6 _
                 have hR6 : RB (wr.alloc (.cells #[.int .i64 kind, .bool false, .slice Ak xs.length ck] 41)) xs vb w6 := rb_copy rfl hsz5.out hown6 hg6
                 obtain ⟨Ab, cb, rfl, hcb, _⟩ := own_form hR6.1
                 have hP6 := hac.keep hR6.2
                 have z0 := hP6.cellH hj
                 have hRd6 : Rd w6 (· ≠ G 0) Ab (xs.map B) := (own_rd hR6.1).weak (fun b hb hge => by
                   have := hashIs_lt (hac.i 0 hj)
                   omega)
                 have hwr := write_any (G 0) (M 0) xs Ab cb w6 (hP6.i 0 hj) hRd6 hcb (by have := hMb.out 0 hj; omega) (keys_below hK hP6.below)
                 replace hwr := Lib.hid hwr
                 clear hown6 hg6 hRd6)
              | (go_at_call 19
                 refine hwr.out.mono ?_
                 rintro e w7 ⟨rfl, hH7, hG7⟩
                 have hP7 := hP6.write hj hH7 hG7))
            have hR7 : w7.ownsRow (wr.alloc (.cells #[.int .i64 kind, .bool false, .slice Ak xs.length ck] 41)).heap.size 5 1 (.slice Ab xs.length cb) xs.length (xs.map B) := own_grown hR6.1 hG7 (fun b hb e => by
              obtain ⟨cs, hB⟩ := hash_blk (hP6.i 0 hj)
              injection e with e
              subst e
              exact own_type hR6.1 hB (by decide) hb)
            have hBa7 : Blk w7 wr.heap.size 41 [.int .i64 kind, .bool false, .slice Ak xs.length ck] := by
              have h6 := hBa.below hR6.2 hBa.lt
              obtain ⟨cs, hB⟩ := hash_blk (hP6.i 0 hj)
              exact h6.grown hG7 (by simpa using h6.ne_ hB (by decide))
            have hq2 : w7.cell? ⟨wr.heap.size, 2, none⟩ = some (.slice Ak xs.length ck) := by rw [hBa7.cell]; rfl
            obtain ⟨AJ, cJ, hVJ, hcJ, _⟩ := own_form (hP7.o 0 hj)
            have hqa : w7.cell? ⟨ga, 0, none⟩ = some (.slice AJ (M 0).length cJ) := by rw [hP7.cellA hj, hVJ]
            have hVlt : ∀ b, (V 0).ownBlock = some b → b < (wr.alloc (.cells #[.int .i64 kind, .bool false, .slice Ak xs.length ck] 41)).heap.size := fun b hb => (own_lt (hac.o 0 hj) b hb).2
            have hVlt2 : ∀ i, i < 2 → ∀ b, (V i).ownBlock = some b → b < (wr.alloc (.cells #[.int .i64 kind, .bool false, .slice Ak xs.length ck] 41)).heap.size := fun i hi b hb => (own_lt (hac.o i hi) b hb).2
            have hrd7 := hrd.below hP7.below
            have hmJ := hMb.out 0 hj
            clear hac hrd2 hBa hBa7 hR6 hP6 hH7 hG7 hwr z0 hc0 hc1 hc2
            generalize (wr.alloc (.cells #[.int .i64 kind, .bool false, .slice Ak xs.length ck] 41)).heap.size = B5 at *
            generalize wr.heap.size = gac at *
            refine region_perm (C := fun w' => ∃ n, w' = w7.drewN n) [0, 1] [2, 3, 4, 5, 6, 7] 8 [9, 10] (by kernel_rfl) (by kernel_rfl) (fun _ d _ _ _ h => by cases d <;> exact h) ⟨1, rfl⟩ ?_
            simp only [pickOps, List.map_cons, List.map_nil, nthOp_zero, nthOp_succ]
            repeat (go_big_quiet_step (fail))
            refine wpQuiet_nil ?_
            repeat (go_big_quiet_step (fail))
            refine wpQuiet_nil ?_
            rintro _ ⟨nq, rfl⟩
            have hb8 : Below w7.heap.size w7 (w7.drewN nq) := below_drewN (Below.refl _ _) nq
            have hP8 := hP7.keep hb8
            have hR8 := own_grown hR7 (grown_of_below (row := none) hb8) (fun b _ => by simp)
            have hrd8 := hrd.below hP8.below
            have ho8 := hP8.o 0 hj
            rw [hVJ] at ho8 hVlt
            clear hb8 hP7 hR7 hrd7 hqa hq2
            generalize w7.drewN nq = w8 at *
            go_wp2_with (first
              | (at_builtin
                 refine wpList_append_rd _ rfl (.tmp 55) (.tmp 57) 22 rfl w.heap.size 5 (B 0) 1 1 Tryd.underlying22 info8 (.slice AJ (M 0).length cJ) (M 0).length ((M 0).map B) rfl ho8 (· < w.heap.size) Ak xs.length ck (xs.map B) rfl (by simp) hrd8 (all_B _) (by unfold maxLen; omega) (by omega) hP8.below.size ?_
                 intro v9 w9 hown9 hg9 hv9
                 have hown9' : w9.ownsRow w.heap.size 5 1 v9 (M 0 ++ xs).length ((M 0 ++ xs).map B) := by
                   rw [List.length_append, List.map_append]; exact hown9
                 obtain ⟨A9, c9, rfl, _, _⟩ := own_form hown9
                 have hP10 := hP8.row hj hown9' (by rw [hVJ]; exact hg9) (by
                   rw [hVJ]
                   rcases hv9 with hv9 | hv9
                   · exact .inl hv9
                   · exact .inr fun b hb => by rw [hv9] at hb; injection hb with hb; omega)
                 have hcell9 : Blk w9 ga 22 [V 0, V 1] := hP8.a.grown hg9 (fun e => own_type ho8 hP8.a (by decide) e.symm)
                 have x1 : ∃ u, w9.cell? ⟨ga, 0, none⟩ = some u := by rw [hcell9.cell]; exact ⟨_, rfl⟩
                 obtain ⟨u9, x1⟩ := x1
                 have xf := hcell9.frozen 0
                 have hR9 := own_grown hR8 hg9 (fun b hb e => by
                   have h1 := (own_lt hR8 b hb).1
                   have h2 := hVlt b e.symm
                   omega)
                 have hR10 := own_grown hR9 (grown_setC w9 ga 0 (.slice A9 ((M 0).length + xs.length) c9)) (fun b hb e => own_type hR9 hcell9 (by decide) (by rw [hb]; exact e))
                 have hVb : ∀ i, i < 2 → ∀ b, (upd V 0 (.slice A9 ((M 0).length + xs.length) c9) i).ownBlock = some b → (Value.slice Ab xs.length cb).ownBlock ≠ some b := by
                   intro i hi b hb hb2
                   have h1 := own_lt hR8 b hb2
                   by_cases e : i = 0
                   · subst e
                     rw [upd_same] at hb
                     rcases hv9 with hv9 | hv9
                     · rw [hv9] at hb; have := hVlt b hb; omega
                     · rw [hv9] at hb; injection hb with hb; omega
                   · rw [upd_other _ _ e] at hb
                     have := hVlt2 i hi b hb
                     omega
                 replace hVb := Lib.hid hVb
                 clear hown9 hown9' hg9 hv9 hcell9 hR9 hR8 hP8 ho8))
            obtain ⟨V2, hV2⟩ : ∃ V2, V2 = upd V 0 (.slice A9 ((M 0).length + xs.length) c9) := ⟨_, rfl⟩
            obtain ⟨M2, hM22⟩ : ∃ M2, M2 = upd M 0 (M 0 ++ xs) := ⟨_, rfl⟩
            rw [← hV2] at hP10 hVb
            rw [← hM22] at hP10
            have hlen2 : ∀ i, i < 2 → (M2 i).length ≤ totA acts (k + 1) := by
              intro i hi
              rw [hM22]
              by_cases e : i = 0
              · subst e
                rw [upd_same, List.length_append]
                have := hM.out 0 hj
                have := htk.out
                omega
              · rw [upd_other _ _ e]; exact hM2.out i hi
            replace hlen2 := Lib.hid hlen2
            clear hV2 hM22 hVlt hVlt2 x1 xf hVJ hcJ
            generalize World.setCell w9 _ _ = w10 at *
            obtain ⟨wo, rfl⟩ : ∃ wo : World, wo = wr := ⟨_, rfl⟩
            go_loopw [62] (fun i wr => ∃ (q : Nat) (ys : List UInt8), q ≤ xs.length ∧ i = .int .i64 (q : Int) ∧ ys.length = xs.length ∧ wr.ownsRow B5 5 1 (.slice Ab xs.length cb) xs.length (ys.map B) ∧ PL w gh ga G V2 M2 M2 wr) (fun i _ => xs.length - (intOf i).toNat)
            case atStart => exact ⟨0, xs, Nat.zero_le _, rfl, rfl, hR10, hP10⟩
            case round =>
              clear hR10 hP10
              obtain ⟨q, ys, hq, rfl, hyl, hR, hP⟩ := hrel
              by_cases hlt2 : q < xs.length
              · obtain ⟨gb, cap', he, hge, hgl, _, hcell⟩ := own_at hR (by omega)
                injection he with he _ _
                subst he
                have hce := hcell q (B (ys.getD q 0)) (by simp [hyl, hlt2])
                have hfr := hR.frozenAt q
                obtain ⟨y, hy⟩ : ∃ y, y = ys.getD q 0 := ⟨_, rfl⟩
                rw [← hy] at hce
                have hbs : (bv y + 1) % 256 = bv (y + 1) := by
                  unfold bv
                  rw [UInt8.toNat_add]
                  simp
                have hst := hR.stored q (B (y + 1))
                have hP2 : PL w gh ga G V2 M2 M2 (wr.setCell ⟨gb, q, none⟩ (B (y + 1))) := hP.grown hst.2 (fun e => own_type hR hP.h (by decide) (by rw [e]; rfl)) (fun e => own_type hR hP.a (by decide) (by rw [e]; rfl)) (fun i hi e => by
                  obtain ⟨cs, hB⟩ := hash_blk (hP.i i hi)
                  exact own_type hR hB (by decide) (by rw [e]; rfl)) (fun i hi b hb e => hVb.out i hi b hb (by rw [e]; rfl)) (fun b hb => by injection hb with hb; omega)
                have hR2 : (wr.setCell ⟨gb, q, none⟩ (B (y + 1))).ownsRow B5 5 1 (.slice (some ⟨gb, 0, none⟩) xs.length cb) xs.length ((ys.set q (y + 1)).map B) := by
                  rw [List.map_set]; exact hst.1
                clear hcell hst hy
                replace hR2 := Lib.hid hR2
                replace hP2 := Lib.hid hP2
                replace hyl := Lib.hid hyl
                go_wp2
                go_roundw
                case rel => exact ⟨q + 1, ys.set q (y + 1), by omega, by go_num, by rw [List.length_set, hyl.out], hR2.out, hP2.out⟩
                case measure => simp [intOf]; omega
              · obtain ⟨q9, hq9⟩ : ∃ q9, q9 = q := ⟨_, rfl⟩
                rw [← hq9] at hlt2 hq ⊢
                have hge : xs.length ≤ q9 := by omega
                clear hq9
                replace hyl := Lib.hid hyl
                go_wp2
                go_roundw
                case rel => exact ⟨k + 1, G, V2, M2, by omega, by go_num, hP, hlen2.out⟩
                case measure => simp [intOf]; omega
        · as_aux_lemma =>
            have hsz5 : wr.heap.size + 1 = (wr.alloc (.cells #[.int .i64 kind, .bool true, .slice Ak xs.length ck] 41)).heap.size := by simp
            replace hsz5 := Lib.hid hsz5
            have hwl : w.heap.size ≤ (wr.alloc (.cells #[.int .i64 kind, .bool true, .slice Ak xs.length ck] 41)).heap.size := hac.below.size
            go_wp2_with (first
              | (at_builtin
                 refine wpList_append_rd _ rfl (.tmp 40) (.tmp 42) 22 rfl (wr.alloc (.cells #[.int .i64 kind, .bool true, .slice Ak xs.length ck] 41)).heap.size 5 (B 0) 1 1 Tryd.underlying22 info8 (.slice (some ⟨wr.heap.size + 1, 0, none⟩) 0 0) 0 [] rfl (own_empty_at (wr.alloc (.cells #[.int .i64 kind, .bool true, .slice Ak xs.length ck] 41)) _ _ hsz5.out) (· < w.heap.size) Ak xs.length ck (xs.map B) rfl (by simp) (hrd2.below (((Below.refl _ _).alloc (Nat.le_refl _) _).mono hwl)) (all_B _) (by unfold maxLen; omega) (by omega) (by simp) ?_
                 intro vb w6 hown6 hg6 _
                 have hR6 : RB (wr.alloc (.cells #[.int .i64 kind, .bool true, .slice Ak xs.length ck] 41)) xs vb w6 := rb_copy rfl hsz5.out hown6 hg6
                 obtain ⟨Ab, cb, rfl, hcb, _⟩ := own_form hR6.1
                 have hP6 := hac.keep hR6.2
                 have z0 := hP6.cellH hj
                 have hRd6 : Rd w6 (· ≠ G 1) Ab (xs.map B) := (own_rd hR6.1).weak (fun b hb hge => by
                   have := hashIs_lt (hac.i 1 hj)
                   omega)
                 have hwr := write_any (G 1) (M 1) xs Ab cb w6 (hP6.i 1 hj) hRd6 hcb (by have := hMb.out 1 hj; omega) (keys_below hK hP6.below)
                 replace hwr := Lib.hid hwr
                 clear hown6 hg6 hRd6)
              | (go_at_call 19
                 refine hwr.out.mono ?_
                 rintro e w7 ⟨rfl, hH7, hG7⟩
                 have hP7 := hP6.write hj hH7 hG7))
            have hR7 : w7.ownsRow (wr.alloc (.cells #[.int .i64 kind, .bool true, .slice Ak xs.length ck] 41)).heap.size 5 1 (.slice Ab xs.length cb) xs.length (xs.map B) := own_grown hR6.1 hG7 (fun b hb e => by
              obtain ⟨cs, hB⟩ := hash_blk (hP6.i 1 hj)
              injection e with e
              subst e
              exact own_type hR6.1 hB (by decide) hb)
            have hBa7 : Blk w7 wr.heap.size 41 [.int .i64 kind, .bool true, .slice Ak xs.length ck] := by
              have h6 := hBa.below hR6.2 hBa.lt
              obtain ⟨cs, hB⟩ := hash_blk (hP6.i 1 hj)
              exact h6.grown hG7 (by simpa using h6.ne_ hB (by decide))
            have hq2 : w7.cell? ⟨wr.heap.size, 2, none⟩ = some (.slice Ak xs.length ck) := by rw [hBa7.cell]; rfl
            obtain ⟨AJ, cJ, hVJ, hcJ, _⟩ := own_form (hP7.o 1 hj)
            have hqa : w7.cell? ⟨ga, 1, none⟩ = some (.slice AJ (M 1).length cJ) := by rw [hP7.cellA hj, hVJ]
            have hVlt : ∀ b, (V 1).ownBlock = some b → b < (wr.alloc (.cells #[.int .i64 kind, .bool true, .slice Ak xs.length ck] 41)).heap.size := fun b hb => (own_lt (hac.o 1 hj) b hb).2
            have hVlt2 : ∀ i, i < 2 → ∀ b, (V i).ownBlock = some b → b < (wr.alloc (.cells #[.int .i64 kind, .bool true, .slice Ak xs.length ck] 41)).heap.size := fun i hi b hb => (own_lt (hac.o i hi) b hb).2
            have hrd7 := hrd.below hP7.below
            have hmJ := hMb.out 1 hj
            clear hac hrd2 hBa hBa7 hR6 hP6 hH7 hG7 hwr z0 hc0 hc1 hc2
            generalize (wr.alloc (.cells #[.int .i64 kind, .bool true, .slice Ak xs.length ck] 41)).heap.size = B5 at *
            generalize wr.heap.size = gac at *
            refine region_perm (C := fun w' => ∃ n, w' = w7.drewN n) [0, 1] [2, 3, 4, 5, 6, 7] 8 [9, 10] (by kernel_rfl) (by kernel_rfl) (fun _ d _ _ _ h => by cases d <;> exact h) ⟨1, rfl⟩ ?_
            simp only [pickOps, List.map_cons, List.map_nil, nthOp_zero, nthOp_succ]
            repeat (go_big_quiet_step (fail))
            refine wpQuiet_nil ?_
            repeat (go_big_quiet_step (fail))
            refine wpQuiet_nil ?_
            rintro _ ⟨nq, rfl⟩
            have hb8 : Below w7.heap.size w7 (w7.drewN nq) := below_drewN (Below.refl _ _) nq
            have hP8 := hP7.keep hb8
            have hR8 := own_grown hR7 (grown_of_below (row := none) hb8) (fun b _ => by simp)
            have hrd8 := hrd.below hP8.below
            have ho8 := hP8.o 1 hj
            rw [hVJ] at ho8 hVlt
            clear hb8 hP7 hR7 hrd7 hqa hq2
            generalize w7.drewN nq = w8 at *
            go_wp2_with (first
              | (at_builtin
                 refine wpList_append_rd _ rfl (.tmp 55) (.tmp 57) 22 rfl w.heap.size 5 (B 0) 1 1 Tryd.underlying22 info8 (.slice AJ (M 1).length cJ) (M 1).length ((M 1).map B) rfl ho8 (· < w.heap.size) Ak xs.length ck (xs.map B) rfl (by simp) hrd8 (all_B _) (by unfold maxLen; omega) (by omega) hP8.below.size ?_
                 intro v9 w9 hown9 hg9 hv9
                 have hown9' : w9.ownsRow w.heap.size 5 1 v9 (M 1 ++ xs).length ((M 1 ++ xs).map B) := by
                   rw [List.length_append, List.map_append]; exact hown9
                 obtain ⟨A9, c9, rfl, _, _⟩ := own_form hown9
                 have hP10 := hP8.row hj hown9' (by rw [hVJ]; exact hg9) (by
                   rw [hVJ]
                   rcases hv9 with hv9 | hv9
                   · exact .inl hv9
                   · exact .inr fun b hb => by rw [hv9] at hb; injection hb with hb; omega)
                 have hcell9 : Blk w9 ga 22 [V 0, V 1] := hP8.a.grown hg9 (fun e => own_type ho8 hP8.a (by decide) e.symm)
                 have x1 : ∃ u, w9.cell? ⟨ga, 1, none⟩ = some u := by rw [hcell9.cell]; exact ⟨_, rfl⟩
                 obtain ⟨u9, x1⟩ := x1
                 have xf := hcell9.frozen 1
                 have hR9 := own_grown hR8 hg9 (fun b hb e => by
                   have h1 := (own_lt hR8 b hb).1
                   have h2 := hVlt b e.symm
                   omega)
                 have hR10 := own_grown hR9 (grown_setC w9 ga 1 (.slice A9 ((M 1).length + xs.length) c9)) (fun b hb e => own_type hR9 hcell9 (by decide) (by rw [hb]; exact e))
                 have hVb : ∀ i, i < 2 → ∀ b, (upd V 1 (.slice A9 ((M 1).length + xs.length) c9) i).ownBlock = some b → (Value.slice Ab xs.length cb).ownBlock ≠ some b := by
                   intro i hi b hb hb2
                   have h1 := own_lt hR8 b hb2
                   by_cases e : i = 1
                   · subst e
                     rw [upd_same] at hb
                     rcases hv9 with hv9 | hv9
                     · rw [hv9] at hb; have := hVlt b hb; omega
                     · rw [hv9] at hb; injection hb with hb; omega
                   · rw [upd_other _ _ e] at hb
                     have := hVlt2 i hi b hb
                     omega
                 replace hVb := Lib.hid hVb
                 clear hown9 hown9' hg9 hv9 hcell9 hR9 hR8 hP8 ho8))
            obtain ⟨V2, hV2⟩ : ∃ V2, V2 = upd V 1 (.slice A9 ((M 1).length + xs.length) c9) := ⟨_, rfl⟩
            obtain ⟨M2, hM22⟩ : ∃ M2, M2 = upd M 1 (M 1 ++ xs) := ⟨_, rfl⟩
            rw [← hV2] at hP10 hVb
            rw [← hM22] at hP10
            have hlen2 : ∀ i, i < 2 → (M2 i).length ≤ totA acts (k + 1) := by
              intro i hi
              rw [hM22]
              by_cases e : i = 1
              · subst e
                rw [upd_same, List.length_append]
                have := hM.out 1 hj
                have := htk.out
                omega
              · rw [upd_other _ _ e]; exact hM2.out i hi
            replace hlen2 := Lib.hid hlen2
            clear hV2 hM22 hVlt hVlt2 x1 xf hVJ hcJ
            generalize World.setCell w9 _ _ = w10 at *
            obtain ⟨wo, rfl⟩ : ∃ wo : World, wo = wr := ⟨_, rfl⟩
            go_loopw [62] (fun i wr => ∃ (q : Nat) (ys : List UInt8), q ≤ xs.length ∧ i = .int .i64 (q : Int) ∧ ys.length = xs.length ∧ wr.ownsRow B5 5 1 (.slice Ab xs.length cb) xs.length (ys.map B) ∧ PL w gh ga G V2 M2 M2 wr) (fun i _ => xs.length - (intOf i).toNat)
            case atStart => exact ⟨0, xs, Nat.zero_le _, rfl, rfl, hR10, hP10⟩
            case round =>
              clear hR10 hP10
              obtain ⟨q, ys, hq, rfl, hyl, hR, hP⟩ := hrel
              by_cases hlt2 : q < xs.length
              · obtain ⟨gb, cap', he, hge, hgl, _, hcell⟩ := own_at hR (by omega)
                injection he with he _ _
                subst he
                have hce := hcell q (B (ys.getD q 0)) (by simp [hyl, hlt2])
                have hfr := hR.frozenAt q
                obtain ⟨y, hy⟩ : ∃ y, y = ys.getD q 0 := ⟨_, rfl⟩
                rw [← hy] at hce
                have hbs : (bv y + 1) % 256 = bv (y + 1) := by
                  unfold bv
                  rw [UInt8.toNat_add]
                  simp
                have hst := hR.stored q (B (y + 1))
                have hP2 : PL w gh ga G V2 M2 M2 (wr.setCell ⟨gb, q, none⟩ (B (y + 1))) := hP.grown hst.2 (fun e => own_type hR hP.h (by decide) (by rw [e]; rfl)) (fun e => own_type hR hP.a (by decide) (by rw [e]; rfl)) (fun i hi e => by
                  obtain ⟨cs, hB⟩ := hash_blk (hP.i i hi)
                  exact own_type hR hB (by decide) (by rw [e]; rfl)) (fun i hi b hb e => hVb.out i hi b hb (by rw [e]; rfl)) (fun b hb => by injection hb with hb; omega)
                have hR2 : (wr.setCell ⟨gb, q, none⟩ (B (y + 1))).ownsRow B5 5 1 (.slice (some ⟨gb, 0, none⟩) xs.length cb) xs.length ((ys.set q (y + 1)).map B) := by
                  rw [List.map_set]; exact hst.1
                clear hcell hst hy
                replace hR2 := Lib.hid hR2
                replace hP2 := Lib.hid hP2
                replace hyl := Lib.hid hyl
                go_wp2
                go_roundw
                case rel => exact ⟨q + 1, ys.set q (y + 1), by omega, by go_num, by rw [List.length_set, hyl.out], hR2.out, hP2.out⟩
                case measure => simp [intOf]; omega
              · obtain ⟨q9, hq9⟩ : ∃ q9, q9 = q := ⟨_, rfl⟩
                rw [← hq9] at hlt2 hq ⊢
                have hge : xs.length ≤ q9 := by omega
                clear hq9
                replace hyl := Lib.hid hyl
                go_wp2
                go_roundw
                case rel => exact ⟨k + 1, G, V2, M2, by omega, by go_num, hP, hlen2.out⟩
                case measure => simp [intOf]; omega
      have b0 : (kind == 0) = false := by simp [k0]
      by_cases k1 : kind = 1
      · have b1 : (kind == 1) = true := by simp [k1]
        clear k0 k1
        obtain ⟨Aj, cj, hVj, hcj, hoH, hoA, hoS, hoR, _⟩ := pl_over hac hK hj (hMb.out j hj)
        replace hoS := Lib.hid hoS
        replace hoR := Lib.hid hoR
        clear hVj hBa hrd2 hP
        rcases hjt with ⟨rfl, rfl⟩ | ⟨rfl, rfl⟩
        all_goals
          as_aux_lemma =>
            go_wp2
            generalize wr.heap.size = gac at *
            generalize World.alloc wr _ = w5 at *
            clear hc0 hc1 hc2
            haveI := over_nonempty w5
            refine quiet_over (by kernel_rfl) (by kernel_rfl) ?_
            repeat (first
              | (refine wpQuiet_neq_dig (.tmp 78) (.tmp 83) _ rfl rfl _ _ rfl rfl (shaOf_length _) (shaOf_length _) false (by simp) ?_; go_frame)
              | go_big_quiet_step (first
                | (go_at_call 20; exact calls_over _ (hoS.out _))
                | (go_at_call 13; exact calls_over _ (hoR.out _))))
            refine wpQuiet_nil ?_
            rintro _ ⟨s, rfl⟩
            go_wp2
            go_roundw
            case rel => exact ⟨k + 1, G, V, M, by omega, by go_num, hac.keep s.2, hM2.out⟩
            case measure => simp [intOf]; omega
      have b1 : (kind == 1) = false := by simp [k1]
      by_cases k2 : kind = 2
      · have b2 : (kind == 2) = true := by simp [k2]
        clear k0 k1 k2
        obtain ⟨Aj, cj, hVj, hcj, hoH, hoA, _, _, hoL⟩ := pl_over hac hK hj (hMb.out j hj)
        replace hoL := Lib.hid hoL
        have hnl : (((M j).length : Int) != ((M j).length : Int)) = false := by simp
        have hmj := hMb.out j hj
        clear hVj hBa hrd2 hP
        rcases hjt with ⟨rfl, rfl⟩ | ⟨rfl, rfl⟩
        all_goals
          as_aux_lemma =>
            go_wp2
            generalize wr.heap.size = gac at *
            generalize World.alloc wr _ = w5 at *
            clear hc0 hc1 hc2
            haveI := over_nonempty w5
            refine quiet_over (by kernel_rfl) (by kernel_rfl) ?_
            repeat (go_big_quiet_step ((go_at_call 21; exact calls_over _ (hoL.out _))))
            refine wpQuiet_nil ?_
            rintro _ ⟨s, rfl⟩
            go_wp2
            go_roundw
            case rel => exact ⟨k + 1, G, V, M, by omega, by go_num, hac.keep s.2, hM2.out⟩
            case measure => simp [intOf]; omega
      have b2 : (kind == 2) = false := by simp [k2]
      by_cases k3 : kind = 3
      · have b3 : (kind == 3) = true := by simp [k3]
        clear k0 k1 k2 k3
        have hcp := fun (i : Nat) (hi : i < 2) => copy_any (G i) (M i) _ (hac.i i hi)
        replace hcp := Lib.hid hcp
        have f0 := hac.cellH (k := 0) (by omega)
        have f1 := hac.cellH (k := 1) (by omega)
        have ff0 := hac.h.frozen 0
        have ff1 := hac.h.frozen 1
        obtain ⟨Aj, cj, hVj, hcj, _⟩ := own_form (hac.o j hj)
        have hmj := hMb.out j hj
        obtain ⟨jo, hjo⟩ : ∃ jo, jo = 1 - j := ⟨_, rfl⟩
        have hjo2 : jo < 2 := by omega
        have hrow : ∀ w6 g6, Below (wr.alloc (.cells #[.int .i64 kind, .bool two, .slice Ak xs.length ck] 41)).heap.size (wr.alloc (.cells #[.int .i64 kind, .bool two, .slice Ak xs.length ck] 41)) w6 → HashIs w6 g6 (M j) → (wr.alloc (.cells #[.int .i64 kind, .bool two, .slice Ak xs.length ck] 41)).heap.size ≤ g6 → PL w gh ga (upd G jo g6) V (upd M jo (M j)) M (w6.setCell ⟨gh, jo, none⟩ (.pointer (some ⟨g6, 0, none⟩))) :=
          fun w6 g6 hb hH hg => hac.hash hjo2 hb hH hg
        replace hrow := Lib.hid hrow
        have hnea : gh ≠ ga := hac.h.ne_ hac.a (by decide)
        clear hrd2 hP
        rcases hjt with ⟨rfl, rfl⟩ | ⟨rfl, rfl⟩
        · as_aux_lemma =>
            subst hjo
            go_wp2_with fail
            refine (hcp.out _ (by omega)).mono ?_
            rintro e w6 ⟨g6, rfl, hg6, hH6, hb6⟩
            have hP7 : PL w gh ga (upd G 1 g6) V (upd M 1 (M 0)) M (w6.setCell ⟨gh, 1, none⟩ (.pointer (some ⟨g6, 0, none⟩))) := hrow.out w6 g6 hb6 hH6 hg6
            have hP6 := hac.keep hb6
            have z0 := hP6.cellH (k := 0) (by omega)
            have z1 := hP6.cellH (k := 1) (by omega)
            have zf0 := hP6.h.frozen 0
            have zf1 := hP6.h.frozen 1
            have y0 := hP6.cellA hj
            rw [hVj] at y0
            have hga6 := hP6.a.lt
            have hgh6 := hP6.h.lt
            have hnea2 : ga ≠ gh := Ne.symm hnea
            have hRd7 : Rd (w6.setCell ⟨gh, 1, none⟩ (.pointer (some ⟨g6, 0, none⟩))) (· < (w6.setCell ⟨gh, 1, none⟩ (.pointer (some ⟨g6, 0, none⟩))).heap.size) Aj ((M 0).map B) := by
              have h7 := hP7.o 0 hj
              rw [hVj] at h7
              exact (own_rd h7).weak (fun b hb _ => hb)
            have hsz7 : w6.heap.size = (w6.setCell ⟨gh, 1, none⟩ (.pointer (some ⟨g6, 0, none⟩))).heap.size := (World.size_setCell _ _ _).symm
            replace hsz7 := Lib.hid hsz7
            clear hcp hrow f0 f1 ff0 ff1 hH6 hg6 hb6 hP6
            go_wp2_with (first
              | (at_builtin
                 refine wpList_append_rd _ rfl (.tmp 112) (.tmp 116) 22 rfl (w6.setCell ⟨gh, 1, none⟩ (.pointer (some ⟨g6, 0, none⟩))).heap.size 5 (B 0) 1 1 Tryd.underlying22 info8 (.slice (some ⟨w6.heap.size, 0, none⟩) 0 0) 0 [] rfl (own_empty_at (w6.setCell ⟨gh, 1, none⟩ (.pointer (some ⟨g6, 0, none⟩))) _ _ hsz7.out) (· < (w6.setCell ⟨gh, 1, none⟩ (.pointer (some ⟨g6, 0, none⟩))).heap.size) Aj (M 0).length cj ((M 0).map B) rfl (by simp) (hRd7.below ((Below.refl _ _).alloc (Nat.le_refl _) _)) (all_B _) (by unfold maxLen; omega) (by omega) (by simp) ?_
                 intro v8 w8 hown8 hg8 _
                 have hR8 : RB (w6.setCell ⟨gh, 1, none⟩ (.pointer (some ⟨g6, 0, none⟩))) (M 0) v8 w8 := rb_copy rfl hsz7.out hown8 hg8
                 obtain ⟨A8, c8, rfl, _, _⟩ := own_form hR8.1
                 have hP8 := hP7.keep hR8.2
                 have hP9 : PL w gh ga (upd G 1 g6) (upd V 1 (.slice A8 (M 0).length c8)) (upd M 1 (M 0)) (upd M 1 (M 0)) (w8.setCell ⟨ga, 1, none⟩ (.slice A8 (M 0).length c8)) := hP7.row hjo2 (own_base hR8.1 hP7.below.size) (grown_of_below hR8.2) (.inr fun b hb => (own_lt hR8.1 b hb).1)
                 have x0 : w8.cell? ⟨gh, 1, none⟩ = some (.pointer (some ⟨g6, 0, none⟩)) := by
                   have := hP8.cellH hjo2
                   rwa [upd_same] at this
                 have x1 := hP8.cellA hjo2
                 have xf := hP8.a.frozen 1
                 clear hown8 hg8 hR8 hP8))
            go_roundw
            case rel =>
              refine ⟨k + 1, _, _, _, by omega, by go_num, hP9, fun i hi => ?_⟩
              by_cases e : i = 1
              · subst e; rw [upd_same]; exact hM2.out 0 (by omega)
              · rw [upd_other _ _ e]; exact hM2.out i hi
            case measure => simp [intOf]; omega
        · as_aux_lemma =>
            subst hjo
            go_wp2_with fail
            refine (hcp.out _ (by omega)).mono ?_
            rintro e w6 ⟨g6, rfl, hg6, hH6, hb6⟩
            have hP7 : PL w gh ga (upd G 0 g6) V (upd M 0 (M 1)) M (w6.setCell ⟨gh, 0, none⟩ (.pointer (some ⟨g6, 0, none⟩))) := hrow.out w6 g6 hb6 hH6 hg6
            have hP6 := hac.keep hb6
            have z0 := hP6.cellH (k := 0) (by omega)
            have z1 := hP6.cellH (k := 1) (by omega)
            have zf0 := hP6.h.frozen 0
            have zf1 := hP6.h.frozen 1
            have y0 := hP6.cellA hj
            rw [hVj] at y0
            have hga6 := hP6.a.lt
            have hgh6 := hP6.h.lt
            have hnea2 : ga ≠ gh := Ne.symm hnea
            have hRd7 : Rd (w6.setCell ⟨gh, 0, none⟩ (.pointer (some ⟨g6, 0, none⟩))) (· < (w6.setCell ⟨gh, 0, none⟩ (.pointer (some ⟨g6, 0, none⟩))).heap.size) Aj ((M 1).map B) := by
              have h7 := hP7.o 1 hj
              rw [hVj] at h7
              exact (own_rd h7).weak (fun b hb _ => hb)
            have hsz7 : w6.heap.size = (w6.setCell ⟨gh, 0, none⟩ (.pointer (some ⟨g6, 0, none⟩))).heap.size := (World.size_setCell _ _ _).symm
            replace hsz7 := Lib.hid hsz7
            clear hcp hrow f0 f1 ff0 ff1 hH6 hg6 hb6 hP6
            go_wp2_with (first
              | (at_builtin
                 refine wpList_append_rd _ rfl (.tmp 112) (.tmp 116) 22 rfl (w6.setCell ⟨gh, 0, none⟩ (.pointer (some ⟨g6, 0, none⟩))).heap.size 5 (B 0) 1 1 Tryd.underlying22 info8 (.slice (some ⟨w6.heap.size, 0, none⟩) 0 0) 0 [] rfl (own_empty_at (w6.setCell ⟨gh, 0, none⟩ (.pointer (some ⟨g6, 0, none⟩))) _ _ hsz7.out) (· < (w6.setCell ⟨gh, 0, none⟩ (.pointer (some ⟨g6, 0, none⟩))).heap.size) Aj (M 1).length cj ((M 1).map B) rfl (by simp) (hRd7.below ((Below.refl _ _).alloc (Nat.le_refl _) _)) (all_B _) (by unfold maxLen; omega) (by omega) (by simp) ?_
                 intro v8 w8 hown8 hg8 _
                 have hR8 : RB (w6.setCell ⟨gh, 0, none⟩ (.pointer (some ⟨g6, 0, none⟩))) (M 1) v8 w8 := rb_copy rfl hsz7.out hown8 hg8
                 obtain ⟨A8, c8, rfl, _, _⟩ := own_form hR8.1
                 have hP8 := hP7.keep hR8.2
                 have hP9 : PL w gh ga (upd G 0 g6) (upd V 0 (.slice A8 (M 1).length c8)) (upd M 0 (M 1)) (upd M 0 (M 1)) (w8.setCell ⟨ga, 0, none⟩ (.slice A8 (M 1).length c8)) := hP7.row hjo2 (own_base hR8.1 hP7.below.size) (grown_of_below hR8.2) (.inr fun b hb => (own_lt hR8.1 b hb).1)
                 have x0 : w8.cell? ⟨gh, 0, none⟩ = some (.pointer (some ⟨g6, 0, none⟩)) := by
                   have := hP8.cellH hjo2
                   rwa [upd_same] at this
                 have x1 := hP8.cellA hjo2
                 have xf := hP8.a.frozen 0
                 clear hown8 hg8 hR8 hP8))
            go_roundw
            case rel =>
              refine ⟨k + 1, _, _, _, by omega, by go_num, hP9, fun i hi => ?_⟩
              by_cases e : i = 0
              · subst e; rw [upd_same]; exact hM2.out 1 (by omega)
              · rw [upd_other _ _ e]; exact hM2.out i hi
            case measure => simp [intOf]; omega
      have b3 : (kind == 3) = false := by simp [k3]
      clear k0 k1 k2 k3 hBa hrd2 hP
      rcases hjt with ⟨rfl, rfl⟩ | ⟨rfl, rfl⟩
      all_goals
        as_aux_lemma =>
          go_wp2
          go_roundw
          case rel => exact ⟨k + 1, G, V, M, by omega, by go_num, hac, hM2.out⟩
          case measure => simp [intOf]; omega
    · obtain ⟨k9, hk9⟩ : ∃ k9, k9 = k := ⟨_, rfl⟩
      rw [← hk9] at hlt hk ⊢
      have hge : n ≤ k9 := by omega
      clear hk9 hzA
      obtain ⟨A0, c0, _, hc0, hH0, hA0, hS0, hR0, _⟩ := pl_over hP hK (j := 0) (by omega) (hMb.out 0 (by omega))
      obtain ⟨A1, c1, _, hc1, hH1, hA1, hS1, hR1, _⟩ := pl_over hP hK (j := 1) (by omega) (hMb.out 1 (by omega))
      replace hS0 := Lib.hid hS0
      replace hR0 := Lib.hid hR0
      replace hS1 := Lib.hid hS1
      replace hR1 := Lib.hid hR1
      have hPb := hP.below
      clear hP
      generalize G 0 = g2 at *
      generalize G 1 = g3 at *
      generalize M 0 = m0 at *
      generalize M 1 = m1 at *
      go_wp2
      haveI := over_nonempty wr
      refine quiet_over (by kernel_rfl) (by kernel_rfl) ?_
      repeat (first
        | (refine wpQuiet_eql_dig (.tmp 129) (.tmp 133) _ rfl rfl (shaOf m0) (shaOf m0) rfl rfl (shaOf_length _) (shaOf_length _) true (by simp) ?_; go_frame)
        | (refine wpQuiet_eql_dig (.tmp 139) (.tmp 143) _ rfl rfl (shaOf m1) (shaOf m1) rfl rfl (shaOf_length _) (shaOf_length _) true (by simp) ?_; go_frame)
        | go_big_quiet_step (first
          | (go_at_call 20; first | (with_reducible exact calls_over _ (hS0.out _)) | (with_reducible exact calls_over _ (hS1.out _)))
          | (go_at_call 13; first | (with_reducible exact calls_over _ (hR0.out _)) | (with_reducible exact calls_over _ (hR1.out _)))))
      refine wpQuiet_nil ?_
      rintro _ ⟨s, rfl⟩
      go_wp2
      go_ret
      exact ⟨rfl, hPb.trans (s.2.mono hPb.size)⟩
end Go.Proofs.YtahjfnnmaalnoaaDoor
