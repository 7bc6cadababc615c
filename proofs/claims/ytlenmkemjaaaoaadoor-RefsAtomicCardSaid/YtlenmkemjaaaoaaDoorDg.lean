/- Joined: DgB, Hex, Parse, BackS, ArrEq, Less, ParseP, RHex. -/
import Derived.Test.YtlenmkemjaaaoaaDoorBa
import Derived.Test.YtlenmkemjaaaoaaDoorRows
import Derived.Deep.WholeRow
import Derived.BigRegion
import Derived.BigQuiet
import Derived.Deep.QuietTactic
import Derived.StillTailTactics
import Derived.LoopTactic
import Derived.IntWalk
import Derived.WalkSmall
import Derived.Laws.ResultCell
import Derived.Laws.StructEq
section
/- Small words on bytes and digests. -/
namespace Go.Proofs.YtlenmkemjaaaoaaDoor
open Go.RowKit

theorem all_B (l : List UInt8) : ∀ v ∈ l.map B, v.oneCell' = true := by
  intro v hv
  obtain ⟨x, _, rfl⟩ := List.mem_map.1 hv
  rfl
def zero32 : List Value := List.replicate 32 (B 0)
theorem zeros32 : (Tryd.prog.info? 57).map (fun i => (i.zero, i.size)) = some (some (.agg zero32.toArray), 32) := by kernel_rfl
theorem info8 : InfoOf Tryd.prog 5 (B 0) 1 1 := ⟨by kernel_rfl, rfl, by decide⟩
end Go.Proofs.YtlenmkemjaaaoaaDoor
end

section
/- The walk of digest.Hex. -/
namespace Go.Proofs.YtlenmkemjaaaoaaDoor
open Go.RowKit

def hexDigits : List UInt8 := [48, 49, 50, 51, 52, 53, 54, 55, 56, 57, 97, 98, 99, 100, 101, 102]
def hexD (n : Nat) : UInt8 := hexDigits.getD n 0
def hexOf (d : List UInt8) : List UInt8 := d.flatMap fun x => [hexD (x.toNat / 16), hexD (x.toNat % 16)]
def digitsB : ByteArray := ⟨hexDigits.toArray⟩
theorem hi_eq (x : UInt8) : bv x / 16 = ((x.toNat / 16 : Nat) : Int) := by unfold bv; omega
theorem lo_eq (x : UInt8) : bits .and .u8 (bv x) 15 = ((x.toNat % 16 : Nat) : Int) := by
  have h : (15 : Int) = bv 15 := by decide
  rw [h, b_and]
  unfold bv
  rw [UInt8.toNat_and]
  exact congrArg _ (Nat.and_two_pow_sub_one_eq_mod x.toNat 4)
theorem index_hex (n : Nat) (hn : n < 16) (w : World) : (Instr.index 9 (.string digitsB) (.int .u8 (n : Int))).run Tryd.prog w = .ok (B (hexD n)) w := by
  obtain rfl | rfl | rfl | rfl | rfl | rfl | rfl | rfl | rfl | rfl | rfl | rfl | rfl | rfl | rfl | rfl : n = 0 ∨ n = 1 ∨ n = 2 ∨ n = 3 ∨ n = 4 ∨ n = 5 ∨ n = 6 ∨ n = 7 ∨ n = 8 ∨ n = 9 ∨ n = 10 ∨ n = 11 ∨ n = 12 ∨ n = 13 ∨ n = 14 ∨ n = 15 := by omega
  all_goals kernel_rfl
theorem index_dig (d : List UInt8) (hd : d.length = 32) (k : Nat) (hk : k < 32) (w : World) : (Instr.index 57 (.agg (d.map B).toArray) (.int .i64 (k : Int))).run Tryd.prog w = .ok (B (d.getD k 0)) w := by
  have h1 : (sizeOf 5).run Tryd.prog w = .ok 1 w := by kernel_rfl
  simp [Instr.index, asIntOf, run_underlying Tryd.underlying57, h1, part, hd, hk]

theorem wpQuiet_hex {ops : Array Oper} {rest : List Oper} {o : Oper} {a : Act} {C : World → Prop} {Q : Act → Prop} (y : Operand) (ho : o.op = .index 9 (.const (.string digitsB)) y) (hgd : o.guard = none)
    (n : Nat) (hn : n < 16) (hy : a.eval y = .int .u8 (n : Int)) (h : wpQuiet Tryd.prog ops C Q rest (a.put o.dst (B (hexD n)))) : wpQuiet Tryd.prog ops C Q (o :: rest) a := by
  refine wpQuiet_run _ ho hgd _ (fun w _ => ?_) h
  have e : a.eval (.const (.string digitsB)) = .string digitsB := rfl
  simp only [execOp, ho, e, hy, Sem.run_bind, index_hex n hn w, Result.andThen_ok, Sem.run_pure]
theorem hexOf_take (d : List UInt8) (k : Nat) (hk : k < d.length) : hexOf (d.take (k + 1)) = hexOf (d.take k) ++ [hexD ((d.getD k 0).toNat / 16), hexD ((d.getD k 0).toNat % 16)] := by
  rw [List.take_succ_eq_append_getElem hk]
  unfold hexOf
  rw [List.flatMap_append]
  simp [hk]
theorem hexOf_length (d : List UInt8) : (hexOf d).length = 2 * d.length := by
  induction d with
  | nil => rfl
  | cons x d ih => simp only [hexOf, List.flatMap_cons, List.length_append, List.length_cons, List.length_nil] at ih ⊢; omega

attribute [local go_sem] hi_eq lo_eq
set_option maxRecDepth 100000 in
set_option maxHeartbeats 1000000 in
theorem hex_any (d : List UInt8) (hd : d.length = 32) (w : World) :
    Calls Tryd.prog 35 #[.agg (d.map B).toArray] w fun e w' => e = .returned (.string ⟨(hexOf d).toArray⟩) ∧ Below w.heap.size w w' := by
  have hsz0 : (Tryd.prog.info? 57).map (·.size) = some (d.map B).length := by rw [List.length_map, hd]; kernel_rfl
  replace hsz0 := Lib.hid hsz0
  replace hd := Lib.hid hd
  go_enter Tryd.func35, Tryd.ntmps35
  go_wp2_with (refine wpList_load_blk rfl 57 (.tmp 1) rfl w.heap.size rfl 57 (d.map B) (Blk.new_at rfl) _ Tryd.underlying57 rfl hsz0.out ?_)
  go_loopw [7, 3] (fun i v wr => ∃ k : Nat, k ≤ 32 ∧ i = .int .i64 (k : Int) ∧ wr.ownsRow (w.heap.size + 1) 5 1 v (hexOf (d.take k)).length ((hexOf (d.take k)).map B) ∧ Below w.heap.size w wr ∧ w.heap.size + 1 ≤ wr.heap.size) (fun i _ _ => 32 - (intOf i).toNat)
  case atStart => exact ⟨0, by omega, rfl, World.ownsRow_nil _ _ _ _, (Below.refl _ _).alloc (Nat.le_refl _) _, by simp⟩
  case round =>
    obtain ⟨k, hk, rfl, hown, hb, hsz⟩ := hrel
    obtain ⟨ys, hys⟩ : ∃ ys, ys = hexOf (d.take k) := ⟨_, rfl⟩
    rw [← hys] at hown
    obtain ⟨A, cap, rfl, hcap, hcap2⟩ := own_form hown
    have hyl : ys.length ≤ 64 := by rw [hys, hexOf_length, List.length_take]; omega
    replace hys := Lib.hid hys
    by_cases hlt : k < 32
    · obtain ⟨x, hx⟩ : ∃ x, x = d.getD k 0 := ⟨_, rfl⟩
      have hidx := index_dig d hd.out k hlt
      rw [← hx] at hidx
      replace hx := Lib.hid hx
      have hxlt := x.toNat_lt
      go_wp2
      refine region_perm (C := fun w' => ∃ n, w' = wr.drewN n) [0, 1, 2, 3, 4, 5, 6] [] 7 [8, 9] (by kernel_rfl) (by kernel_rfl) (fun _ d _ _ _ h => by cases d <;> exact h) ⟨1, rfl⟩ ?_
      simp only [pickOps, List.map_cons, List.map_nil, nthOp_zero, nthOp_succ]
      repeat (first
        | (refine wpQuiet_hex (.tmp 12) rfl rfl (x.toNat / 16) (by omega) ?_ ?_; exact congrArg (Value.int .u8) (show ((x.toNat : Int) / 16) = ((x.toNat / 16 : Nat) : Int) by omega); go_frame)
        | (refine wpQuiet_hex (.tmp 15) rfl rfl (x.toNat % 16) (by omega) ?_ ?_; exact congrArg (Value.int .u8) (show ((x.toNat : Int) % 16) = ((x.toNat % 16 : Nat) : Int) by omega); go_frame)
        | go_big_quiet_step (fail))
      refine wpQuiet_nil ?_
      refine wpQuiet_nil ?_
      rintro _ ⟨nq, rfl⟩
      replace hown : (wr.drewN nq).ownsRow (w.heap.size + 1) 5 1 (.slice A ys.length cap) ys.length (ys.map B) := hown
      replace hb := below_drewN hb nq
      have hsz2 : (wr.drewN nq).heap.size = wr.heap.size := rfl
      rw [← hsz2] at hsz
      clear hsz2
      generalize wr.drewN nq = wr at hown hb hsz ⊢
      go_wp2_with (at_builtin; refine wpList_append_rd _ rfl (.tmp 10) (.tmp 17) 84 rfl (w.heap.size + 1) 5 (B 0) 1 1 Tryd.underlying84 info8 (.slice A ys.length cap) ys.length (ys.map B) rfl (hown.alloc _) (· = wr.heap.size) (some ⟨wr.heap.size, 0, none⟩) 2 2 [B (hexD (x.toNat / 16)), B (hexD (x.toNat % 16))] rfl rfl (Rd.of_blk (r := []) (Blk.new_at rfl) rfl rfl) (by simp [Value.oneCell']) (by unfold maxLen; omega) (by omega) (by simp; omega) ?_; intro v' w' hown' hg' _)
      go_roundw
      case rel =>
        refine ⟨k + 1, by omega, by go_num, ?_, ?_, ?_⟩
        · rw [hexOf_take d k (by rw [hd.out]; exact hlt), ← hx.out, ← hys.out, List.length_append, List.map_append]; exact hown'
        · exact (hb.alloc (by omega) _).trans ((own_below (hown.alloc _) hg' (by simp; omega)).mono (by omega))
        · have := hg'.size
          simp at this; omega
      case measure => simp [intOf]; omega
    · obtain rfl : k = 32 := by omega
      have hfin : ys = hexOf d := by rw [hys.out, List.take_of_length_le (by rw [hd.out]; omega)]
      have hrd := own_rd hown
      go_wp2_with (refine wpList_to_string rfl 84 9 (.tmp 20) rfl 5 Tryd.underlying84 Tryd.underlying5 Tryd.underlying9 A ys cap rfl hrd ?_)
      go_ret
      exact ⟨rfl, hb⟩
end Go.Proofs.YtlenmkemjaaaoaaDoor
end

section
/- The walks of digest.Parse, of the reference's digit, Parse and Hex. -/
namespace Go.Proofs.YtlenmkemjaaaoaaDoor
open Go.RowKit

def digitV (c : UInt8) : Nat := if 48 ≤ c ∧ c ≤ 57 then c.toNat - 48 else if 97 ≤ c ∧ c ≤ 102 then c.toNat - 97 + 10 else 16
theorem digitV_all : ∀ n : Fin 256, digitV (UInt8.ofNat n.1) ≤ 16 ∧ (digitV (UInt8.ofNat n.1) < 16 → hexD (digitV (UInt8.ofNat n.1)) = UInt8.ofNat n.1) := by decide +kernel
theorem digitV_hexD : ∀ n : Fin 16, digitV (hexD n.1) = n.1 := by decide +kernel
theorem digitV_le (c : UInt8) : digitV c ≤ 16 := by
  have := (digitV_all ⟨c.toNat, c.toNat_lt⟩).1
  simpa using this
theorem hexD_digitV (c : UInt8) (h : digitV c < 16) : hexD (digitV c) = c := by
  have := (digitV_all ⟨c.toNat, c.toNat_lt⟩).2
  simp only [UInt8.ofNat_toNat] at this
  exact this h
theorem digitV_found (c : UInt8) (n : Nat) (hn : n < 16) (h : hexD n = c) : digitV c = n := by
  rw [← h]; exact digitV_hexD ⟨n, hn⟩
theorem digitV_none (c : UInt8) (h : ∀ j, j < 16 → hexD j ≠ c) : digitV c = 16 := by
  have h1 := digitV_le c
  rcases Nat.lt_or_ge (digitV c) 16 with h2 | h2
  · exact absurd (hexD_digitV c h2) (h _ h2)
  · omega

/-- What the digest holds behind k letters. -/
def dAfter (l : List UInt8) : Nat → List UInt8
  | 0 => List.replicate 32 0
  | k + 1 => (dAfter l k).set (k / 2) ((dAfter l k).getD (k / 2) 0 * 16 + UInt8.ofNat (digitV (l.getD k 0)))
theorem dAfter_length (l : List UInt8) (k : Nat) : (dAfter l k).length = 32 := by
  induction k with
  | zero => rfl
  | succ k ih => simp [dAfter, ih]
def pok (l : List UInt8) : Bool := decide (l.length = 64) && l.all (fun c => decide (digitV c < 16))
def pd (l : List UInt8) : List UInt8 := if pok l then dAfter l 64 else List.replicate 32 0
theorem pd_length (l : List UInt8) : (pd l).length = 32 := by
  unfold pd; split
  · exact dAfter_length _ _
  · rfl

theorem index_hex64 (n : Nat) (hn : n < 16) (w : World) : (Instr.index 9 (.string digitsB) (.int .i64 (n : Int))).run Tryd.prog w = .ok (B (hexD n)) w := by
  obtain rfl | rfl | rfl | rfl | rfl | rfl | rfl | rfl | rfl | rfl | rfl | rfl | rfl | rfl | rfl | rfl : n = 0 ∨ n = 1 ∨ n = 2 ∨ n = 3 ∨ n = 4 ∨ n = 5 ∨ n = 6 ∨ n = 7 ∨ n = 8 ∨ n = 9 ∨ n = 10 ∨ n = 11 ∨ n = 12 ∨ n = 13 ∨ n = 14 ∨ n = 15 := by omega
  all_goals kernel_rfl
theorem index_str (l : List UInt8) (k : Nat) (hk : k < l.length) (w : World) : (Instr.index 9 (.string ⟨l.toArray⟩) (.int .i64 (k : Int))).run Tryd.prog w = .ok (B (l.getD k 0)) w := by
  have h0 : (⟨l.toArray⟩ : ByteArray)[k]? = some l[k] := by
    have hs : k < (⟨l.toArray⟩ : ByteArray).size := by simpa [ByteArray.size] using hk
    rw [getElem?_pos (⟨l.toArray⟩ : ByteArray) k hs]
    rfl
  simp [Instr.index, asIntOf, run_underlying Tryd.underlying9, h0, hk, bv]

theorem digitV_lo (c : UInt8) (h1 : 48 ≤ bv c) (h2 : bv c ≤ 57) : ((digitV c : Nat) : Int) = bv c - 48 := by
  unfold bv at h1 h2 ⊢
  have : 48 ≤ c ∧ c ≤ 57 := by simp only [UInt8.le_iff_toNat_le]; exact ⟨by simp; omega, by simp; omega⟩
  rw [digitV, if_pos this]; omega
theorem digitV_hi (c : UInt8) (h1 : 97 ≤ bv c) (h2 : bv c ≤ 102) : ((digitV c : Nat) : Int) = bv c - 97 + 10 := by
  unfold bv at h1 h2 ⊢
  have h3 : ¬ (48 ≤ c ∧ c ≤ 57) := by simp only [UInt8.le_iff_toNat_le]; simp; omega
  have h4 : 97 ≤ c ∧ c ≤ 102 := by simp only [UInt8.le_iff_toNat_le]; exact ⟨by simp; omega, by simp; omega⟩
  rw [digitV, if_neg h3, if_pos h4]; omega
theorem digitV_no (c : UInt8) (h1 : ¬ (48 ≤ bv c ∧ bv c ≤ 57)) (h2 : ¬ (97 ≤ bv c ∧ bv c ≤ 102)) : ((digitV c : Nat) : Int) = 16 := by
  unfold bv at h1 h2
  have h3 : ¬ (48 ≤ c ∧ c ≤ 57) := by simp only [UInt8.le_iff_toNat_le]; simp; omega
  have h4 : ¬ (97 ≤ c ∧ c ≤ 102) := by simp only [UInt8.le_iff_toNat_le]; simp; omega
  rw [digitV, if_neg h3, if_neg h4]; rfl

theorem ret_i64 {a b : Int} (h : a = b) : Ending.returned (.int .i64 a) = .returned (.int .i64 b) := by rw [h]
set_option maxHeartbeats 400000 in
theorem digit_any (c : UInt8) (w : World) :
    Calls Tryd.prog 73 #[B c] w fun e w' => e = .returned (.int .i64 (digitV c : Int)) ∧ w = w' := by
  have b0 := bv_nonneg c
  have b1 := bv_lt c
  have e1 := Lib.hid (digitV_lo c)
  have e2 := Lib.hid (digitV_hi c)
  have e3 := Lib.hid (digitV_no c)
  obtain ⟨d, hd⟩ : ∃ d : Int, d = ((digitV c : Nat) : Int) := ⟨_, rfl⟩
  rw [← hd] at e1 e2 e3 ⊢
  clear hd
  by_cases h1 : 48 ≤ bv c
  · by_cases h2 : bv c ≤ 57
    · go_enter Tryd.func73, Tryd.ntmps73
      go_wp2
      go_ret
      exact ⟨ret_i64 (by rw [e1.out h1 h2]), rfl⟩
    · by_cases h3 : 97 ≤ bv c
      · by_cases h4 : bv c ≤ 102
        · go_enter Tryd.func73, Tryd.ntmps73
          go_wp2
          go_ret
          exact ⟨ret_i64 (by rw [e2.out h3 h4]), rfl⟩
        · go_enter Tryd.func73, Tryd.ntmps73
          go_wp2
          go_ret
          exact ⟨ret_i64 (by rw [e3.out (by omega) (by omega)]), rfl⟩
      · go_enter Tryd.func73, Tryd.ntmps73
        go_wp2
        go_ret
        exact ⟨ret_i64 (by rw [e3.out (by omega) (by omega)]), rfl⟩
  · have h3 : ¬ 97 ≤ bv c := by omega
    go_enter Tryd.func73, Tryd.ntmps73
    go_wp2
    go_ret
    exact ⟨ret_i64 (by rw [e3.out (by omega) (by omega)]), rfl⟩

theorem step16 : ∀ (x : Fin 256) (n : Fin 16), (UInt8.ofNat x.1 * 16 + UInt8.ofNat n.1).toNat = (x.1 * 16 + n.1) % 256 ∧ (x.1 * 16 % 256 ||| n.1) = (x.1 * 16 + n.1) % 256 := by decide +kernel
theorem step_mul (x : UInt8) (n : Nat) (hn : n < 16) : (bv x * 16 + (n : Int)) % 256 = bv (x * 16 + UInt8.ofNat n) := by
  have := (step16 ⟨x.toNat, x.toNat_lt⟩ ⟨n, hn⟩).1
  simp only [UInt8.ofNat_toNat] at this
  unfold bv
  rw [this]; omega
theorem step_mul' (x : UInt8) (n : Nat) (hn : n < 16) : bv x * 16 % 256 + (n : Int) = bv (x * 16 + UInt8.ofNat n) := by
  rw [← step_mul x n hn]; omega
theorem step_or (x : UInt8) (n : Nat) (hn : n < 16) : bits .or .u8 (bv x * 16 % 256) (n : Int) = bv (x * 16 + UInt8.ofNat n) := by
  have h := step16 ⟨x.toNat, x.toNat_lt⟩ ⟨n, hn⟩
  simp only [UInt8.ofNat_toNat] at h
  have e1 : bv x * 16 % 256 = bv (UInt8.ofNat (x.toNat * 16 % 256)) := by
    unfold bv; simp
  have e2 : (n : Int) = bv (UInt8.ofNat n) := by
    unfold bv; simp; omega
  rw [e1, e2, b_or]
  unfold bv
  rw [h.1, UInt8.toNat_or, ← h.2]
  congr 1
  have h1 : (UInt8.ofNat (x.toNat * 16 % 256)).toNat = x.toNat * 16 % 256 := by simp
  have h2 : (UInt8.ofNat n).toNat = n := by simp; omega
  rw [h1, h2]
/-- The end of a function with a result in a block and one in a slot. -/
theorem ret_blk2 {P : Program} {fn : Func} {R : Ending → World → Prop} {a : Act} {w : World} {p u : Tmp} {ty : TypeId} (hres : fn.results = #[.cell p ty, .tmp u]) (g : Nat) (t : TypeId) (cs : List Value) (d : TypeDesc) (v2 : Value)
    (hp : a.tmps.getD p undef = .pointer (some ⟨g, 0, none⟩)) (hv : a.tmps.getD u undef = v2) (hg : Blk w g t cs) (hu : P.underlying ty = some d) (hd : (match d with | .struct _ | .array _ _ => true | _ => false) = true)
    (hi : (P.info? ty).map (·.size) = some cs.length) (hdef : a.defers = []) (hR : R (.returned (.tuple #[.agg cs.toArray, v2])) w) : bodyPost P fn R .ret a w := by
  refine bodyPost_ret ?_ hdef hR
  rw [results_cell_tmp hres, hp, hv]
  have h1 : (asAddr (.pointer (some ⟨g, 0, none⟩))).run P w = .ok (⟨g, 0, none⟩ : Addr) w := by simp [asAddr]
  rw [h1, Result.andThen_ok, run_loadVar_row w g t ty cs.toArray (0, 0) d hg hu hd (by simpa using hi), Result.andThen_ok]

def PR (w : World) (l : List UInt8) (k : Nat) (wr : World) : Prop :=
  (∀ j, j < k → digitV (l.getD j 0) < 16) ∧ Blk wr w.heap.size 57 zero32 ∧ Blk wr (w.heap.size + 1) 57 ((dAfter l k).map B) ∧ Below w.heap.size w wr
theorem pok_of {l : List UInt8} (hl : l.length = 64) (h : ∀ j, j < 64 → digitV (l.getD j 0) < 16) : pok l = true := by
  unfold pok
  simp only [hl, decide_true, Bool.true_and, List.all_eq_true, decide_eq_true_eq]
  intro c hc
  obtain ⟨j, hj, rfl⟩ := List.getElem_of_mem hc
  have := h j (by omega)
  simpa [hj] using this
theorem pok_not {l : List UInt8} (j : Nat) (hj : j < l.length) (h : ¬ digitV (l.getD j 0) < 16) : pok l = false := by
  unfold pok
  rw [Bool.and_eq_false_iff]; right
  rw [List.all_eq_false]
  exact ⟨l[j], List.getElem_mem hj, by simpa [hj] using h⟩
theorem pok_len {l : List UInt8} (h : l.length ≠ 64) : pok l = false := by simp [pok, h]

set_option maxRecDepth 100000 in
set_option maxHeartbeats 1000000 in
theorem rparse_any (l : List UInt8) (w : World) :
    Calls Tryd.prog 46 #[.string ⟨l.toArray⟩] w fun e w' => e = .returned (.tuple #[.agg ((pd l).map B).toArray, .bool (pok l)]) ∧ Below w.heap.size w w' := by
  have hz := (zero_of_info zeros32).1
  have hsz : (⟨l.toArray⟩ : ByteArray).size = l.length := by simp [ByteArray.size]
  obtain ⟨n, hn⟩ : ∃ n, n = l.length := ⟨_, rfl⟩
  rw [← hn] at hsz
  by_cases h64 : n = 64
  · have hl64 : l.length = 64 := by omega
    have hb : (((n : Nat) : Int) != 64) = false := by rw [bne_eq_false_iff_eq]; omega
    replace hn := Lib.hid hn
    replace h64 := Lib.hid h64
    replace hl64 := Lib.hid hl64
    go_enter Tryd.func46, Tryd.ntmps46
    go_wp2
    go_loopw [5] (fun i wr => ∃ k : Nat, k ≤ 64 ∧ i = .int .i64 (k : Int) ∧ PR w l k wr) (fun i _ => 64 - (intOf i).toNat)
    case atStart => exact ⟨0, by omega, rfl, fun _ h => absurd h (by omega), (Blk.new_at rfl).alloc _, Blk.new_at (cs := zero32) (by simp), ((Below.refl _ _).alloc (Nat.le_refl _) _).alloc (by simp) _⟩
    case round =>
      obtain ⟨k, hk, rfl, hP⟩ := hrel
      by_cases hlt : k < 64
      · have hkl : k < l.length := by rw [hl64.out]; exact hlt
        obtain ⟨c, hc⟩ : ∃ c, c = l.getD k 0 := ⟨_, rfl⟩
        have hidx := index_str l k hkl
        rw [← hc] at hidx
        obtain ⟨x, hx⟩ : ∃ x, x = (dAfter l k).getD (k / 2) 0 := ⟨_, rfl⟩
        have hcell : wr.cell? ⟨w.heap.size + 1, k / 2, none⟩ = some (B x) := by
          rw [hP.2.2.1.cell, hx]
          have : k / 2 < (dAfter l k).length := by rw [dAfter_length]; omega
          simp [this]
        have hfz := hP.2.2.1.frozen (k / 2)
        obtain ⟨n2, hn2⟩ : ∃ n2, n2 = digitV c := ⟨_, rfl⟩
        have hdig := digit_any c
        rw [← hn2] at hdig
        have hle : n2 ≤ 16 := by rw [hn2]; exact digitV_le c
        replace hdig := Lib.hid hdig
        replace hn2 := Lib.hid hn2
        replace hc := Lib.hid hc
        replace hx := Lib.hid hx
        replace hkl := Lib.hid hkl
        by_cases h16 : n2 < 16
        · have hb2 : (((n2 : Nat) : Int) == 16) = false := by rw [beq_eq_false_iff_ne]; omega
          go_wp2_with (go_at_call 73; refine (hdig.out _).mono ?_; rintro e w1 ⟨rfl, rfl⟩)
          go_roundw
          case rel =>
            refine ⟨k + 1, by omega, by go_num, ?_, hP.2.1.far (by simp) _, ?_, hP.2.2.2.setCell (by simp) _⟩
            · intro j hj
              rcases Nat.lt_or_ge j k with h | h
              · exact hP.1 j h
              · obtain rfl : j = k := by omega
                rw [← hc.out, ← hn2.out]; exact h16
            · have h3 := hP.2.2.1.set_ (k / 2) (B (x * 16 + UInt8.ofNat n2))
              rw [← List.map_set] at h3
              show Blk _ _ _ ((dAfter l (k + 1)).map B)
              rw [dAfter, ← hx.out, ← hc.out, ← hn2.out, step_mul' x n2 h16]
              exact h3
          case measure => simp [intOf]; omega
        · have hb2 : (((n2 : Nat) : Int) == 16) = true := by rw [beq_iff_eq]; omega
          have hp : pok l = false := pok_not k hkl.out (by rw [← hc.out, ← hn2.out]; exact h16)
          have hd : pd l = List.replicate 32 0 := by unfold pd; rw [hp]; rfl
          replace hp := Lib.hid hp
          replace hd := Lib.hid hd
          go_wp2_with (first
            | (go_at_call 73; refine (hdig.out _).mono ?_; rintro e w1 ⟨rfl, rfl⟩)
            | (refine wpList_run (.build 57 #[]) rfl rfl (.agg zero32.toArray) (by kernel_rfl) ?_)
            | (refine wpList_store_blk rfl 57 (.tmp 2) (.tmp 21) rfl w.heap.size zero32 rfl rfl 57 zero32 hP.2.1 rfl (by kernel_rfl) (all_B (List.replicate 32 0)) ?_))
          refine ret_blk2 Tryd.results46 w.heap.size 57 zero32 _ (.bool false) rfl rfl (hP.2.1.setRow_same _) Tryd.underlying57 rfl (by kernel_rfl) rfl ?_
          exact ⟨by rw [hp.out, hd.out]; rfl, below_setRow hP.2.2.2 (Nat.le_refl _) _⟩
      · obtain rfl : k = 64 := by omega
        have hp : pok l = true := pok_of hl64.out hP.1
        have hd : pd l = dAfter l 64 := by unfold pd; rw [hp]; rfl
        have hB := hP.2.2.1
        rw [← hd] at hB
        have hsz2 : (Tryd.prog.info? 57).map (·.size) = some ((pd l).map B).length := by rw [List.length_map, pd_length]; kernel_rfl
        have hlen2 : zero32.length = ((pd l).map B).length := by rw [List.length_map, pd_length]; rfl
        replace hp := Lib.hid hp
        replace hd := Lib.hid hd
        replace hsz2 := Lib.hid hsz2
        replace hlen2 := Lib.hid hlen2
        go_wp2_with (first
          | (refine wpList_load_blk rfl 57 (.tmp 4) rfl (w.heap.size + 1) rfl 57 ((pd l).map B) hB _ Tryd.underlying57 rfl hsz2.out ?_)
          | (refine wpList_store_blk rfl 57 (.tmp 2) (.tmp 33) rfl w.heap.size ((pd l).map B) rfl rfl 57 zero32 hP.2.1 hlen2.out hsz2.out (all_B _) ?_))
        refine ret_blk2 Tryd.results46 w.heap.size 57 ((pd l).map B) _ (.bool true) rfl rfl (hP.2.1.setRow_same _) Tryd.underlying57 rfl hsz2.out rfl ?_
        exact ⟨by rw [hp.out], below_setRow hP.2.2.2 (Nat.le_refl _) _⟩
  · have hb : (((n : Nat) : Int) != 64) = true := by rw [bne_iff_ne]; omega
    have hp : pok l = false := pok_len (by omega)
    have hd : pd l = List.replicate 32 0 := by unfold pd; rw [hp]; rfl
    rw [hp, hd]
    replace hn := Lib.hid hn
    clear hp hd
    go_enter Tryd.func46, Tryd.ntmps46
    go_wp2_with (first
      | (refine wpList_run (.build 57 #[]) rfl rfl (.agg zero32.toArray) (by kernel_rfl) ?_)
      | (refine wpList_store_blk rfl 57 (.tmp 2) (.tmp 10) rfl w.heap.size zero32 rfl rfl 57 zero32 (Blk.new_at rfl) rfl (by kernel_rfl) (all_B (List.replicate 32 0)) ?_))
    refine ret_blk2 Tryd.results46 w.heap.size 57 zero32 _ (.bool false) rfl rfl ((Blk.new_at rfl).setRow_same _) Tryd.underlying57 rfl (by kernel_rfl) rfl ?_
    exact ⟨rfl, below_setRow ((Below.refl _ _).alloc (Nat.le_refl _) _) (Nat.le_refl _) _⟩
end Go.Proofs.YtlenmkemjaaaoaaDoor
end

section
/- A digest's text and back, plainly. -/
namespace Go.Proofs.YtlenmkemjaaaoaaDoor

theorem hexOf_get (d : List UInt8) : ∀ (i : Nat), i < d.length → (hexOf d).getD (2 * i) 0 = hexD ((d.getD i 0).toNat / 16) ∧ (hexOf d).getD (2 * i + 1) 0 = hexD ((d.getD i 0).toNat % 16) := by
  induction d with
  | nil => intro i h; simp at h
  | cons x d ih =>
    intro i h
    have e : hexOf (x :: d) = hexD (x.toNat / 16) :: hexD (x.toNat % 16) :: hexOf d := rfl
    rw [e]
    cases i with
    | zero => exact ⟨rfl, rfl⟩
    | succ i =>
      have := ih i (by simpa using h)
      rw [show 2 * (i + 1) = 2 * i + 1 + 1 by omega]
      simp only [List.getD_cons_succ]
      exact this
theorem digitV_hexD' (n : Nat) (h : n < 16) : digitV (hexD n) = n := digitV_hexD ⟨n, h⟩
/-- The byte of two letters. -/
def pairB (l : List UInt8) (i : Nat) : UInt8 := UInt8.ofNat (digitV (l.getD (2 * i) 0)) * 16 + UInt8.ofNat (digitV (l.getD (2 * i + 1) 0))
theorem dAfter_even (l : List UInt8) : ∀ j, j ≤ 32 → dAfter l (2 * j) = (List.range j).map (pairB l) ++ List.replicate (32 - j) 0 := by
  intro j
  induction j with
  | zero => intro _; simp [dAfter]
  | succ j ih =>
    intro hj
    have h1 := ih (by omega)
    have e1 : 2 * j / 2 = j := by omega
    have e2 : (2 * j + 1) / 2 = j := by omega
    have hr : 32 - j = (32 - (j + 1)) + 1 := by omega
    rw [show 2 * (j + 1) = 2 * j + 1 + 1 by omega, dAfter, dAfter, e1, e2, h1, hr, List.replicate_succ]
    have hlen : ((List.range j).map (pairB l)).length = j := by simp
    have g1 : ((List.range j).map (pairB l) ++ (0 : UInt8) :: List.replicate (32 - (j + 1)) 0).getD j 0 = 0 := by
      rw [List.getD_eq_getElem?_getD, List.getElem?_append_right (by omega)]; simp
    have s1 : ∀ v : UInt8, ((List.range j).map (pairB l) ++ (0 : UInt8) :: List.replicate (32 - (j + 1)) 0).set j v = (List.range j).map (pairB l) ++ v :: List.replicate (32 - (j + 1)) 0 := by
      intro v
      rw [List.set_append_right _ _ (by omega), hlen]
      simp
    rw [g1, s1]
    have g2 : ∀ v : UInt8, ((List.range j).map (pairB l) ++ v :: List.replicate (32 - (j + 1)) 0).getD j 0 = v := by
      intro v
      rw [List.getD_eq_getElem?_getD, List.getElem?_append_right (by omega)]; simp
    have s2 : ∀ u v : UInt8, ((List.range j).map (pairB l) ++ u :: List.replicate (32 - (j + 1)) 0).set j v = (List.range j).map (pairB l) ++ v :: List.replicate (32 - (j + 1)) 0 := by
      intro u v
      rw [List.set_append_right _ _ (by omega), hlen]
      simp
    rw [g2, s2, List.range_succ, List.map_append]
    simp [pairB]
theorem pairB_toNat (l : List UInt8) (i : Nat) (h1 : digitV (l.getD (2 * i) 0) < 16) (h2 : digitV (l.getD (2 * i + 1) 0) < 16) : (pairB l i).toNat = digitV (l.getD (2 * i) 0) * 16 + digitV (l.getD (2 * i + 1) 0) := by
  unfold pairB
  have := (step16 ⟨digitV (l.getD (2 * i) 0), by omega⟩ ⟨digitV (l.getD (2 * i + 1) 0), h2⟩).1
  rw [this]
  simp only
  omega
theorem pd_hexOf (d : List UInt8) (hd : d.length = 32) : pok (hexOf d) = true ∧ pd (hexOf d) = d := by
  have hl : (hexOf d).length = 64 := by rw [hexOf_length, hd]
  have hdig : ∀ i, i < 32 → digitV ((hexOf d).getD (2 * i) 0) = (d.getD i 0).toNat / 16 ∧ digitV ((hexOf d).getD (2 * i + 1) 0) = (d.getD i 0).toNat % 16 := by
    intro i hi
    have hx := (d.getD i 0).toNat_lt
    obtain ⟨h1, h2⟩ := hexOf_get d i (by omega)
    rw [h1, h2]
    exact ⟨digitV_hexD' _ (by omega), digitV_hexD' _ (by omega)⟩
  have hok : pok (hexOf d) = true := pok_of hl (fun j hj => by
    have h1 := hdig (j / 2) (by omega)
    have hx := (d.getD (j / 2) 0).toNat_lt
    rcases Nat.mod_two_eq_zero_or_one j with h | h
    · rw [show j = 2 * (j / 2) by omega, h1.1]; omega
    · rw [show j = 2 * (j / 2) + 1 by omega, h1.2]; omega)
  refine ⟨hok, ?_⟩
  unfold pd
  rw [hok, if_pos rfl]
  have := dAfter_even (hexOf d) 32 (by omega)
  rw [show 2 * 32 = 64 from rfl] at this
  rw [this]
  apply List.ext_getElem
  · simp [hd]
  · intro i h1 h2
    have hi : i < 32 := by omega
    have hp := hdig i hi
    have hx := (d.getD i 0).toNat_lt
    have hpn := pairB_toNat (hexOf d) i (by rw [hp.1]; omega) (by rw [hp.2]; omega)
    rw [hp.1, hp.2] at hpn
    have : pairB (hexOf d) i = d.getD i 0 := UInt8.toNat_inj.1 (by rw [hpn]; omega)
    simp [this, h2]
theorem hexOf_pd (l : List UInt8) (h : pok l = true) : hexOf (pd l) = l := by
  have hl : l.length = 64 := by
    unfold pok at h
    simp only [Bool.and_eq_true, decide_eq_true_eq] at h
    exact h.1
  have hall : ∀ j, j < 64 → digitV (l.getD j 0) < 16 := by
    intro j hj
    unfold pok at h
    simp only [Bool.and_eq_true, List.all_eq_true, decide_eq_true_eq] at h
    have hj2 : j < l.length := by omega
    have := h.2 l[j] (List.getElem_mem hj2)
    simpa [hj2] using this
  have hpd : pd l = (List.range 32).map (pairB l) := by
    unfold pd
    rw [h, if_pos rfl]
    have := dAfter_even l 32 (by omega)
    rw [show 2 * 32 = 64 from rfl] at this
    rw [this]; simp
  have hlen : (hexOf (pd l)).length = l.length := by rw [hexOf_length, pd_length, hl]
  apply List.ext_getElem hlen
  intro j h1 h2
  have hj : j < 64 := by omega
  have hg := hexOf_get (pd l) (j / 2) (by rw [pd_length]; omega)
  have hq : (pd l).getD (j / 2) 0 = pairB l (j / 2) := by
    rw [hpd]
    have : j / 2 < 32 := by omega
    simp [this]
  have hpn := pairB_toNat l (j / 2) (hall _ (by omega)) (hall _ (by omega))
  have d1 := hall (2 * (j / 2)) (by omega)
  have d2 := hall (2 * (j / 2) + 1) (by omega)
  rw [hq, hpn] at hg
  have r : (hexOf (pd l)).getD j 0 = l.getD j 0 := by
    rcases Nat.mod_two_eq_zero_or_one j with hm | hm
    · have e : j = 2 * (j / 2) := by omega
      rw [show (digitV (l.getD (2 * (j / 2)) 0) * 16 + digitV (l.getD (2 * (j / 2) + 1) 0)) / 16 = digitV (l.getD (2 * (j / 2)) 0) by omega, hexD_digitV _ d1] at hg
      rw [← e] at hg
      exact hg.1
    · have e : j = 2 * (j / 2) + 1 := by omega
      rw [show (digitV (l.getD (2 * (j / 2)) 0) * 16 + digitV (l.getD (2 * (j / 2) + 1) 0)) % 16 = digitV (l.getD (2 * (j / 2) + 1) 0) by omega, hexD_digitV _ d2] at hg
      rw [← e] at hg
      exact hg.2
  simpa [h1, h2] using r
end Go.Proofs.YtlenmkemjaaaoaaDoor
end

section
/- Two arrays of bytes held against each other. -/
namespace Go.Proofs.YtlenmkemjaaaoaaDoor
open Go.RowKit
section
variable {P : Program}
theorem run_part_one (w : World) (e : TypeId) (k : IntKind) (he : P.underlying e = some (.int k)) (cs : List Value) (i : Nat) (v : Value) (h : cs[i]? = some v) : (part e cs.toArray i).run P w = .ok v w := by
  simp [part, isAgg, run_underlying he, h]
theorem bv_beq (x y : UInt8) : (bv x == bv y) = (x == y) := by
  rw [Bool.eq_iff_iff, beq_iff_eq, beq_iff_eq]
  exact ⟨bv_inj, fun h => by rw [h]⟩
theorem run_equalIn_arr (w : World) (D : Nat) (t e : TypeId) (n : Nat) (ht : P.underlying t = some (.array n e)) (he : P.underlying e = some (.int .u8)) (hs : (P.info? e).map (·.size) = some 1) (xs ys : List UInt8) (hx : xs.length = n) (hy : ys.length = n)
    (hin : ∀ a b : UInt8, (Op.equalIn D e (B a) (B b)).run P w = .ok (a == b) w) :
    (Op.equalIn (D + 1) t (.agg (xs.map B).toArray) (.agg (ys.map B).toArray)).run P w = .ok (xs == ys) w := by
  cases hq : P.info? e with
  | none => simp [hq] at hs
  | some inf =>
    have hi : inf.size = 1 := by simpa [hq] using hs
    have hsz : (sizeOf e).run P w = .ok 1 w := by simp [sizeOf, typeInfo, hq, hi]
    simp only [Op.equalIn, Sem.run_bind, run_underlying ht, Result.andThen_ok, hsz, Std.Legacy.Range.forIn_eq_forIn_range', Std.Legacy.Range.size]
    have e0 : (xs == ys) = (xs.drop 0 == ys.drop 0) := by simp
    rw [e0]
    have e1 : (n - 0 + 1 - 1) / 1 = n := by omega
    rw [e1]
    have him : 0 + n = xs.length := by omega
    have hiy : 0 + n = ys.length := by omega
    clear hx hy ht e0 e1
    generalize (0 : Nat) = i at him hiy ⊢
    induction n generalizing i with
    | zero =>
      have h1 : xs.drop i = [] := List.drop_of_length_le (by omega)
      have h2 : ys.drop i = [] := List.drop_of_length_le (by omega)
      rw [h1, h2]
      simp
    | succ m ih =>
      have hxi : i < xs.length := by omega
      have hyi : i < ys.length := by omega
      have px := run_part_one (P := P) w e .u8 he (xs.map B) i (B xs[i]) (by simp [hxi])
      have py := run_part_one (P := P) w e .u8 he (ys.map B) i (B ys[i]) (by simp [hyi])
      have he2 := hin xs[i] ys[i]
      simp only [List.range'_succ, List.forIn_cons, Nat.mul_one, Sem.run_bind, px, py, Result.andThen_ok, he2, Sem.run_ite]
      rw [List.drop_eq_getElem_cons hxi, List.drop_eq_getElem_cons hyi]
      cases hb : (xs[i] == ys[i]) with
      | true =>
        simp only [Bool.not_true, Bool.false_eq_true, if_false, Sem.run_pure, Result.andThen_ok, List.cons_beq_cons, hb, Bool.true_and]
        have := ih (i + 1) (by omega) (by omega)
        simp only [Nat.mul_one] at this
        exact this
      | false =>
        simp only [Bool.not_false, if_true, Sem.run_pure, Result.andThen_ok, List.cons_beq_cons, hb, Bool.false_and]
/-- '==' of two arrays of bytes. -/
theorem run_eql_bytes (w : World) (t e : TypeId) (n : Nat) (ht : P.underlying t = some (.array n e)) (he : P.underlying e = some (.int .u8)) (hs : (P.info? e).map (·.size) = some 1) (xs ys : List UInt8) (hx : xs.length = n) (hy : ys.length = n) :
    (binOp .eql t (.agg (xs.map B).toArray) (.agg (ys.map B).toArray)).run P w = .ok (.bool (xs == ys)) w := by
  rw [run_eql_struct, run_equalIn_arr (P := P) w 9999 t e n ht he hs xs ys hx hy (fun a b => by rw [run_equalIn_int (P := P) w 9998 e .u8 .u8 (bv a) (bv b) he, bv_beq])]
  rfl
theorem run_neq_bytes (w : World) (t e : TypeId) (n : Nat) (ht : P.underlying t = some (.array n e)) (he : P.underlying e = some (.int .u8)) (hs : (P.info? e).map (·.size) = some 1) (xs ys : List UInt8) (hx : xs.length = n) (hy : ys.length = n) :
    (binOp .neq t (.agg (xs.map B).toArray) (.agg (ys.map B).toArray)).run P w = .ok (.bool (!(xs == ys))) w := by
  rw [run_neq_struct, run_equalIn_arr (P := P) w 9999 t e n ht he hs xs ys hx hy (fun a b => by rw [run_equalIn_int (P := P) w 9998 e .u8 .u8 (bv a) (bv b) he, bv_beq])]
  rfl
end
/-- Two digests held against each other, as an operation: '==', '!='. -/
theorem exec_eql_dig (w : World) {o : Oper} {a : Act} {x y : Operand} {yt : TypeId} (ho : o.op = .binOp .eql 57 x y yt) (xs ys : List UInt8) (hxe : a.eval x = .agg (xs.map B).toArray) (hye : a.eval y = .agg (ys.map B).toArray) (hx : xs.length = 32) (hy : ys.length = 32) :
    (execOp a.eval o).run Tryd.prog w = .ok (.value (.bool (xs == ys))) w := by
  have h1 : (eqGuard .eql 57 x y (.agg (xs.map B).toArray) (.agg (ys.map B).toArray)).run Tryd.prog w = .ok () w := run_eqGuard_agg (P := Tryd.prog) w .eql 57 x y _ _ (by kernel_rfl)
  simp only [execOp, ho, hxe, hye, Sem.run_bind, h1, Result.andThen_ok, run_eql_bytes (P := Tryd.prog) w 57 5 32 Tryd.underlying57 Tryd.underlying5 (by kernel_rfl) xs ys hx hy, Sem.run_pure]
theorem exec_neq_dig (w : World) {o : Oper} {a : Act} {x y : Operand} {yt : TypeId} (ho : o.op = .binOp .neq 57 x y yt) (xs ys : List UInt8) (hxe : a.eval x = .agg (xs.map B).toArray) (hye : a.eval y = .agg (ys.map B).toArray) (hx : xs.length = 32) (hy : ys.length = 32) :
    (execOp a.eval o).run Tryd.prog w = .ok (.value (.bool (!(xs == ys)))) w := by
  have h1 : (eqGuard .neq 57 x y (.agg (xs.map B).toArray) (.agg (ys.map B).toArray)).run Tryd.prog w = .ok () w := run_eqGuard_agg (P := Tryd.prog) w .neq 57 x y _ _ (by kernel_rfl)
  simp only [execOp, ho, hxe, hye, Sem.run_bind, h1, Result.andThen_ok, run_neq_bytes (P := Tryd.prog) w 57 5 32 Tryd.underlying57 Tryd.underlying5 (by kernel_rfl) xs ys hx hy, Sem.run_pure]
theorem wpList_eql_dig {ops : Array Oper} {rest : List Oper} {o : Oper} {a : Act} {w : World} {Q : Exit → Act → World → Prop} (hgd : o.guard = none) (x y : Operand) (yt : TypeId) (ho : o.op = .binOp .eql 57 x y yt)
    (xs ys : List UInt8) (hxe : a.eval x = .agg (xs.map B).toArray) (hye : a.eval y = .agg (ys.map B).toArray) (hx : xs.length = 32) (hy : ys.length = 32)
    (h : wpList Tryd.prog ops Q rest (a.put o.dst (.bool (xs == ys))) w) : wpList Tryd.prog ops Q (o :: rest) a w :=
  wpList_run _ ho hgd _ (exec_eql_dig w ho xs ys hxe hye hx hy) h
theorem wpList_neq_dig {ops : Array Oper} {rest : List Oper} {o : Oper} {a : Act} {w : World} {Q : Exit → Act → World → Prop} (hgd : o.guard = none) (x y : Operand) (yt : TypeId) (ho : o.op = .binOp .neq 57 x y yt)
    (xs ys : List UInt8) (hxe : a.eval x = .agg (xs.map B).toArray) (hye : a.eval y = .agg (ys.map B).toArray) (hx : xs.length = 32) (hy : ys.length = 32)
    (h : wpList Tryd.prog ops Q rest (a.put o.dst (.bool (!(xs == ys)))) w) : wpList Tryd.prog ops Q (o :: rest) a w :=
  wpList_run _ ho hgd _ (exec_neq_dig w ho xs ys hxe hye hx hy) h
end Go.Proofs.YtlenmkemjaaaoaaDoor
end

section
/- The walks of digest.Less and of the reference's Less. -/
namespace Go.Proofs.YtlenmkemjaaaoaaDoor
open Go.RowKit

def lessS (a b : List UInt8) : Bool := Op.bytesLess a b
theorem lessS_self (a : List UInt8) : lessS a a = false := by
  unfold lessS
  induction a with
  | nil => rfl
  | cons x a ih => simp [Op.bytesLess, ih]

set_option maxRecDepth 100000 in
set_option maxHeartbeats 1000000 in
theorem less_any (a b : List UInt8) (ha : a.length = 32) (hb : b.length = 32) (w : World) :
    Calls Tryd.prog 69 #[.agg (a.map B).toArray, .agg (b.map B).toArray] w fun e w' => e = .returned (.bool (lessS a b)) ∧ Below w.heap.size w w' := by
  have hsa : (Tryd.prog.info? 57).map (·.size) = some (a.map B).length := by rw [List.length_map, ha]; kernel_rfl
  have hsb : (Tryd.prog.info? 57).map (·.size) = some (b.map B).length := by rw [List.length_map, hb]; kernel_rfl
  replace hsa := Lib.hid hsa
  replace hsb := Lib.hid hsb
  replace ha := Lib.hid ha
  replace hb := Lib.hid hb
  go_enter Tryd.func69, Tryd.ntmps69
  go_wp2_with (first
    | (refine wpList_load_blk rfl 57 (.tmp 2) rfl w.heap.size rfl 57 (a.map B) ((Blk.new_at rfl).alloc _) _ Tryd.underlying57 rfl hsa.out ?_)
    | (refine wpList_load_blk rfl 57 (.tmp 3) rfl (w.heap.size + 1) rfl 57 (b.map B) (Blk.new_at (by simp)) _ Tryd.underlying57 rfl hsb.out ?_)
    | (refine wpList_eql_dig rfl (.tmp 5) (.tmp 6) _ rfl a b rfl rfl ha.out hb.out ?_))
  · go_ret
    refine ⟨?_, ((Below.refl _ _).alloc (Nat.le_refl _) _).alloc (by simp) _⟩
    have : a = b := by simpa using ‹(a == b) = true›
    rw [this, lessS_self]
    rfl
  · go_frame
    have hB1 : Blk ((w.alloc (.cells (a.map B).toArray 57)).alloc (.cells (b.map B).toArray 57)) w.heap.size 57 (a.map B) := (Blk.new_at rfl).alloc _
    have hB2 : Blk ((w.alloc (.cells (a.map B).toArray 57)).alloc (.cells (b.map B).toArray 57)) (w.heap.size + 1) 57 (b.map B) := Blk.new_at (by simp)
    have hbl : Below w.heap.size w ((w.alloc (.cells (a.map B).toArray 57)).alloc (.cells (b.map B).toArray 57)) := ((Below.refl _ _).alloc (Nat.le_refl _) _).alloc (by simp) _
    generalize (w.alloc (.cells (a.map B).toArray 57)).alloc (.cells (b.map B).toArray 57) = w1 at hB1 hB2 hbl ⊢
    refine wp_region_quiet_lit (by kernel_rfl) (by kernel_rfl) ?_
    repeat (first
      | (refine wpQuiet_to_string (ok := fun _ => True) 84 9 (.tmp 8) rfl rfl 5 Tryd.underlying84 Tryd.underlying5 Tryd.underlying9 (some ⟨w.heap.size, 0, none⟩) a 32 (by rw [ha.out]; rfl) (fun w' hw => ?_) ?_
         · obtain ⟨n, rfl⟩ := hw
           exact Rd.of_blk (r := []) (hB1.drewN n) (by simp) trivial
         go_frame)
      | (refine wpQuiet_to_string (ok := fun _ => True) 84 9 (.tmp 10) rfl rfl 5 Tryd.underlying84 Tryd.underlying5 Tryd.underlying9 (some ⟨w.heap.size + 1, 0, none⟩) b 32 (by rw [hb.out]; rfl) (fun w' hw => ?_) ?_
         · obtain ⟨n, rfl⟩ := hw
           exact Rd.of_blk (r := []) (hB2.drewN n) (by simp) trivial
         go_frame)
      | go_big_quiet_step (fail))
    refine wpQuiet_nil ?_
    rintro _ ⟨nq, rfl⟩
    go_wp2
    go_ret
    exact ⟨rfl, below_drewN hbl nq⟩

theorem lessS_diff : ∀ (k : Nat) (a b : List UInt8), a.take k = b.take k → k < a.length → k < b.length → a.getD k 0 ≠ b.getD k 0 → lessS a b = decide (bv (a.getD k 0) < bv (b.getD k 0))
  | 0, x :: a, y :: b, _, _, _, hne => by
    have h1 : (x == y) = false := by rw [beq_eq_false_iff_ne]; simpa using hne
    have h2 : decide (bv x < bv y) = decide (x < y) := by
      rw [Bool.eq_iff_iff, decide_eq_true_iff, decide_eq_true_iff, UInt8.lt_iff_toNat_lt]
      unfold bv; omega
    simp [lessS, Op.bytesLess, h1, h2]
  | k + 1, x :: a, y :: b, ht, ha, hb, hne => by
    simp only [List.take_succ_cons, List.cons.injEq] at ht
    have := lessS_diff k a b ht.2 (by simpa using ha) (by simpa using hb) (by simpa using hne)
    have hxy : ¬ x < y := by rw [ht.1]; exact UInt8.lt_irrefl _
    simp only [List.getD_cons_succ]
    rw [← this]
    unfold lessS
    rw [Op.bytesLess, ht.1]
    simp
theorem take_more {a b : List UInt8} {k : Nat} (h : a.take k = b.take k) (ha : k < a.length) (hb : k < b.length) (he : a.getD k 0 = b.getD k 0) : a.take (k + 1) = b.take (k + 1) := by
  rw [List.take_succ_eq_append_getElem ha, List.take_succ_eq_append_getElem hb, h]
  simp [ha, hb] at he
  rw [he]

set_option maxRecDepth 100000 in
set_option maxHeartbeats 1000000 in
theorem rless_any (a b : List UInt8) (ha : a.length = 32) (hb : b.length = 32) (w : World) :
    Calls Tryd.prog 82 #[.agg (a.map B).toArray, .agg (b.map B).toArray] w fun e w' => e = .returned (.bool (lessS a b)) ∧ Below w.heap.size w w' := by
  have hB1 : Blk ((w.alloc (.cells (a.map B).toArray 57)).alloc (.cells (b.map B).toArray 57)) w.heap.size 57 (a.map B) := (Blk.new_at rfl).alloc _
  have hB2 : Blk ((w.alloc (.cells (a.map B).toArray 57)).alloc (.cells (b.map B).toArray 57)) (w.heap.size + 1) 57 (b.map B) := Blk.new_at (by simp)
  have hbl : Below w.heap.size w ((w.alloc (.cells (a.map B).toArray 57)).alloc (.cells (b.map B).toArray 57)) := ((Below.refl _ _).alloc (Nat.le_refl _) _).alloc (by simp) _
  replace ha := Lib.hid ha
  replace hb := Lib.hid hb
  go_enter Tryd.func82, Tryd.ntmps82
  go_wp2
  generalize (w.alloc (.cells (a.map B).toArray 57)).alloc (.cells (b.map B).toArray 57) = w1 at hB1 hB2 hbl ⊢
  go_loopw [5] (fun i wr => ∃ k : Nat, k ≤ 32 ∧ i = .int .i64 (k : Int) ∧ Hid (a.take k = b.take k) ∧ Blk wr w.heap.size 57 (a.map B) ∧ Blk wr (w.heap.size + 1) 57 (b.map B) ∧ Below w.heap.size w wr) (fun i _ => 32 - (intOf i).toNat)
  case atStart => exact ⟨0, by omega, rfl, rfl, hB1, hB2, hbl⟩
  case round =>
    clear hB1 hB2 hbl
    obtain ⟨k, hk, rfl, ht, hB1, hB2, hbl⟩ := hrel
    by_cases hlt : k < 32
    · have hla : k < a.length := by rw [ha.out]; exact hlt
      have hlb : k < b.length := by rw [hb.out]; exact hlt
      obtain ⟨x, hx⟩ : ∃ x, x = a.getD k 0 := ⟨_, rfl⟩
      obtain ⟨y, hy⟩ : ∃ y, y = b.getD k 0 := ⟨_, rfl⟩
      have hc1 : wr.cell? ⟨w.heap.size, k, none⟩ = some (B x) := by rw [hB1.cell, hx]; simp [hla]
      have hc2 : wr.cell? ⟨w.heap.size + 1, k, none⟩ = some (B y) := by rw [hB2.cell, hy]; simp [hlb]
      replace hx := Lib.hid hx
      replace hy := Lib.hid hy
      replace hla := Lib.hid hla
      replace hlb := Lib.hid hlb
      by_cases hxy : x = y
      · have hn : (bv x != bv y) = false := by rw [hxy]; simp
        replace hxy := Lib.hid hxy
        go_wp2
        go_quiet (fail)
        go_wp2
        go_roundw
        case rel =>
          refine ⟨k + 1, by omega, by go_num, take_more ht.out hla.out hlb.out (by rw [← hx.out, ← hy.out]; exact hxy.out), hB1.drewN nq, hB2.drewN nq, below_drewN hbl nq⟩
        case measure => simp [intOf]; omega
      · have hn : (bv x != bv y) = true := by rw [bne_iff_ne]; exact fun e => hxy (bv_inj e)
        replace hxy := Lib.hid hxy
        go_wp2
        go_quiet (fail)
        go_wp2
        generalize hw2 : wr.drewN nq = wr2
        have hc1' : wr2.cell? ⟨w.heap.size, k, none⟩ = some (B x) := by rw [← hw2]; exact hc1
        have hc2' : wr2.cell? ⟨w.heap.size + 1, k, none⟩ = some (B y) := by rw [← hw2]; exact hc2
        have hbl2 : Below w.heap.size w wr2 := by rw [← hw2]; exact below_drewN hbl nq
        clear hw2 hc1 hc2
        go_quiet (fail)
        go_wp2
        go_ret
        refine ⟨?_, below_drewN hbl2 nq⟩
        rw [lessS_diff k a b ht.out hla.out hlb.out (by rw [← hx.out, ← hy.out]; exact hxy.out), ← hx.out, ← hy.out]
        rfl
    · obtain rfl : k = 32 := by omega
      go_wp2
      go_ret
      refine ⟨?_, hbl⟩
      have h32 := ht.out
      rw [List.take_of_length_le (by rw [ha.out]; omega), List.take_of_length_le (by rw [hb.out]; omega)] at h32
      rw [h32, lessS_self]
      rfl
end Go.Proofs.YtlenmkemjaaaoaaDoor
end

section
/- The walk of digest.Parse. -/
namespace Go.Proofs.YtlenmkemjaaaoaaDoor
open Go.RowKit

theorem pr_drewN {w wr : World} {l : List UInt8} {k : Nat} (h : PR w l k wr) (n : Nat) : PR w l k (wr.drewN n) := ⟨h.1, h.2.1.drewN n, h.2.2.1.drewN n, below_drewN h.2.2.2 n⟩

set_option maxRecDepth 100000 in
set_option maxHeartbeats 2000000 in
theorem parse_any (l : List UInt8) (w : World) :
    Calls Tryd.prog 44 #[.string ⟨l.toArray⟩] w fun e w' => e = .returned (.tuple #[.agg ((pd l).map B).toArray, .bool (pok l)]) ∧ Below w.heap.size w w' := by
  have hz := (zero_of_info zeros32).1
  have hsz : (⟨l.toArray⟩ : ByteArray).size = l.length := by simp [ByteArray.size]
  obtain ⟨n, hn⟩ : ∃ n, n = l.length := ⟨_, rfl⟩
  rw [← hn] at hsz
  by_cases h64 : n = 64
  · have hl64 : l.length = 64 := by omega
    have hb : (((n : Nat) : Int) != 64) = false := by rw [bne_eq_false_iff_eq]; omega
    have hge : 64 ≤ n := by omega
    have hle64 : n ≤ 64 := by omega
    replace hn := Lib.hid hn
    replace h64 := Lib.hid h64
    replace hl64 := Lib.hid hl64
    go_enter Tryd.func44, Tryd.ntmps44
    go_wp2
    go_loopw [13] (fun i wr => ∃ k : Nat, k ≤ 64 ∧ i = .int .i64 (k : Int) ∧ PR w l k wr) (fun i _ => 64 - (intOf i).toNat)
    case atStart => exact ⟨0, by omega, rfl, fun _ h => absurd h (by omega), (Blk.new_at rfl).alloc _, Blk.new_at (cs := zero32) (by simp), ((Below.refl _ _).alloc (Nat.le_refl _) _).alloc (by simp) _⟩
    case round =>
      obtain ⟨k, hk, rfl, hP⟩ := hrel
      by_cases hlt : k < 64
      · have hkl : k < l.length := by rw [hl64.out]; exact hlt
        obtain ⟨c, hc⟩ : ∃ c, c = l.getD k 0 := ⟨_, rfl⟩
        have hidx := index_str l k hkl
        rw [← hc] at hidx
        obtain ⟨wo, rfl⟩ : ∃ wo : World, wo = wr := ⟨_, rfl⟩
        replace hc := Lib.hid hc
        replace hkl := Lib.hid hkl
        have hkn : k < n := by omega
        go_wp2
        go_loopw [6] (fun i wr => ∃ m : Nat, m ≤ 16 ∧ i = .int .i64 (m : Int) ∧ Hid (∀ j, j < m → hexD j ≠ c) ∧ PR w l k wr) (fun i _ => 16 - (intOf i).toNat)
        case atStart => exact ⟨0, by omega, rfl, fun _ h => absurd h (by omega), hP⟩
        case round =>
          clear hP
          obtain ⟨m, hm, rfl, hno, hP⟩ := hrel
          by_cases hm16 : m < 16
          · have hx := index_hex64 m hm16
            simp only [digitsB, hexDigits] at hx
            have hdec : decide ((m : Int) < 16) = true := by rw [decide_eq_true_iff]; omega
            by_cases heq : hexD m = c
            · have hbb : (bv (hexD m) != bv c) = false := by rw [heq]; simp
              have hdv : digitV c = m := digitV_found c m hm16 heq
              have hb16 : (((m : Nat) : Int) == 16) = false := by rw [beq_eq_false_iff_ne]; omega
              replace hdv := Lib.hid hdv
              replace heq := Lib.hid heq
              go_wp2
              go_quiet (fail)
              replace hP := pr_drewN hP nq
              generalize wr.drewN nq = wr2 at hP ⊢
              obtain ⟨x, hxx⟩ : ∃ x, x = (dAfter l k).getD (k / 2) 0 := ⟨_, rfl⟩
              have hcell : wr2.cell? ⟨w.heap.size + 1, k / 2, none⟩ = some (B x) := by
                rw [hP.2.2.1.cell, hxx]
                have : k / 2 < (dAfter l k).length := by rw [dAfter_length]; omega
                simp [this]
              have hfz := hP.2.2.1.frozen (k / 2)
              replace hxx := Lib.hid hxx
              go_wp2
              go_roundw
              case rel =>
                refine ⟨k + 1, by omega, by go_num, ?_, hP.2.1.far (by simp) _, ?_, hP.2.2.2.setCell (by simp) _⟩
                · intro j hj
                  rcases Nat.lt_or_ge j k with h | h
                  · exact hP.1 j h
                  · obtain rfl : j = k := by omega
                    rw [← hc.out, hdv.out]; exact hm16
                · have h3 := hP.2.2.1.set_ (k / 2) (B (x * 16 + UInt8.ofNat m))
                  rw [← List.map_set] at h3
                  show Blk _ _ _ ((dAfter l (k + 1)).map B)
                  rw [dAfter, ← hxx.out, ← hc.out, hdv.out, step_or x m hm16]
                  exact h3
              case measure => simp [intOf]; omega
            · have hbb : (bv (hexD m) != bv c) = true := by rw [bne_iff_ne]; exact fun e => heq (bv_inj e)
              replace heq := Lib.hid heq
              go_wp2
              go_quiet (fail)
              go_wp2
              go_roundw
              case rel =>
                refine ⟨m + 1, by omega, by go_num, ?_, pr_drewN hP nq⟩
                intro j hj
                rcases Nat.lt_or_ge j m with h | h
                · exact hno.out j h
                · obtain rfl : j = m := by omega
                  exact heq.out
              case measure => simp [intOf]; omega
          · have hm2 : 16 ≤ m := by omega
            have hdec : decide ((m : Int) < 16) = false := by rw [decide_eq_false_iff_not]; omega
            have hb16 : (((m : Nat) : Int) == 16) = true := by rw [beq_iff_eq]; omega
            have hdv : digitV c = 16 := digitV_none c (fun j hj => hno.out j (by omega))
            have hp : pok l = false := pok_not k hkl.out (by rw [← hc.out, hdv]; omega)
            have hd : pd l = List.replicate 32 0 := by unfold pd; rw [hp]; rfl
            replace hp := Lib.hid hp
            replace hd := Lib.hid hd
            clear hdv
            go_wp2
            go_quiet (fail)
            replace hP := pr_drewN hP nq
            generalize wr.drewN nq = wr2 at hP ⊢
            go_wp2_with (first
              | (refine wpList_run (.build 57 #[]) rfl rfl (.agg zero32.toArray) (by kernel_rfl) ?_)
              | (refine wpList_store_blk rfl 57 (.tmp 2) (.tmp 30) rfl w.heap.size zero32 rfl rfl 57 zero32 hP.2.1 rfl (by kernel_rfl) (all_B (List.replicate 32 0)) ?_))
            refine ret_blk2 Tryd.results44 w.heap.size 57 zero32 _ (.bool false) rfl rfl (hP.2.1.setRow_same _) Tryd.underlying57 rfl (by kernel_rfl) rfl ?_
            exact ⟨by rw [hp.out, hd.out]; rfl, below_setRow hP.2.2.2 (Nat.le_refl _) _⟩
      · obtain rfl : k = 64 := by omega
        have hp : pok l = true := pok_of hl64.out hP.1
        have hd : pd l = dAfter l 64 := by unfold pd; rw [hp]; rfl
        have hB := hP.2.2.1
        rw [← hd] at hB
        have hsz2 : (Tryd.prog.info? 57).map (·.size) = some ((pd l).map B).length := by rw [List.length_map, pd_length]; kernel_rfl
        have hlen2 : zero32.length = ((pd l).map B).length := by rw [List.length_map, pd_length]; rfl
        replace hp := Lib.hid hp
        replace hd := Lib.hid hd
        replace hsz2 := Lib.hid hsz2
        replace hlen2 := Lib.hid hlen2
        go_wp2_with (first
          | (refine wpList_load_blk rfl 57 (.tmp 4) rfl (w.heap.size + 1) rfl 57 ((pd l).map B) hB _ Tryd.underlying57 rfl hsz2.out ?_)
          | (refine wpList_store_blk rfl 57 (.tmp 2) (.tmp 43) rfl w.heap.size ((pd l).map B) rfl rfl 57 zero32 hP.2.1 hlen2.out hsz2.out (all_B _) ?_))
        refine ret_blk2 Tryd.results44 w.heap.size 57 ((pd l).map B) _ (.bool true) rfl rfl (hP.2.1.setRow_same _) Tryd.underlying57 rfl hsz2.out rfl ?_
        exact ⟨by rw [hp.out], below_setRow hP.2.2.2 (Nat.le_refl _) _⟩
  · have hb : (((n : Nat) : Int) != 64) = true := by rw [bne_iff_ne]; omega
    have hp : pok l = false := pok_len (by omega)
    have hd : pd l = List.replicate 32 0 := by unfold pd; rw [hp]; rfl
    rw [hp, hd]
    replace hn := Lib.hid hn
    clear hp hd
    go_enter Tryd.func44, Tryd.ntmps44
    go_wp2_with (first
      | (refine wpList_load_blk rfl 57 (.tmp 4) rfl (w.heap.size + 1) rfl 57 zero32 (Blk.new_at (by simp)) _ Tryd.underlying57 rfl (by kernel_rfl) ?_)
      | (refine wpList_store_blk rfl 57 (.tmp 2) (.tmp 10) rfl w.heap.size zero32 rfl rfl 57 zero32 ((Blk.new_at rfl).alloc _) rfl (by kernel_rfl) (all_B (List.replicate 32 0)) ?_))
    refine ret_blk2 Tryd.results44 w.heap.size 57 zero32 _ (.bool false) rfl rfl (((Blk.new_at rfl).alloc _).setRow_same _) Tryd.underlying57 rfl (by kernel_rfl) rfl ?_
    exact ⟨rfl, below_setRow (((Below.refl _ _).alloc (Nat.le_refl _) _).alloc (by simp) _) (Nat.le_refl _) _⟩
end Go.Proofs.YtlenmkemjaaaoaaDoor
end

section
/- The walk of the reference's Hex. -/
namespace Go.Proofs.YtlenmkemjaaaoaaDoor
open Go.RowKit

theorem slice_hex (n : Nat) (hn : n < 16) (w : World) : (Instr.sliceAt 9 (.string ⟨#[48, 49, 50, 51, 52, 53, 54, 55, 56, 57, 97, 98, 99, 100, 101, 102]⟩) (some (.int .i64 (n : Int))) (some (.int .i64 ((n : Int) + 1))) none).run Tryd.prog w = .ok (.string ⟨[hexD n].toArray⟩) w := by
  obtain rfl | rfl | rfl | rfl | rfl | rfl | rfl | rfl | rfl | rfl | rfl | rfl | rfl | rfl | rfl | rfl : n = 0 ∨ n = 1 ∨ n = 2 ∨ n = 3 ∨ n = 4 ∨ n = 5 ∨ n = 6 ∨ n = 7 ∨ n = 8 ∨ n = 9 ∨ n = 10 ∨ n = 11 ∨ n = 12 ∨ n = 13 ∨ n = 14 ∨ n = 15 := by omega
  all_goals kernel_rfl
theorem wpQuiet_slice_hex {ops : Array Oper} {rest : List Oper} {o : Oper} {a : Act} {C : World → Prop} {Q : Act → Prop} (x y : Operand) (ho : o.op = .slice 9 (.const (.string ⟨#[48, 49, 50, 51, 52, 53, 54, 55, 56, 57, 97, 98, 99, 100, 101, 102]⟩)) (some x) (some y) none) (hgd : o.guard = none)
    (n : Nat) (hn : n < 16) (hx : a.eval x = .int .i64 (n : Int)) (hy : a.eval y = .int .i64 ((n : Int) + 1)) (h : wpQuiet Tryd.prog ops C Q rest (a.put o.dst (.string ⟨[hexD n].toArray⟩))) : wpQuiet Tryd.prog ops C Q (o :: rest) a := by
  refine wpQuiet_run _ ho hgd _ (fun w _ => ?_) h
  have e : ∀ v, a.eval (.const v) = v := fun _ => rfl
  simp only [execOp, ho, e, hx, hy, Option.map_some, Option.map_none, Sem.run_bind, slice_hex n hn w, Result.andThen_ok, Sem.run_pure]

theorem str_app (a b : List UInt8) : (⟨a.toArray⟩ ++ ⟨b.toArray⟩ : ByteArray) = ⟨(a ++ b).toArray⟩ := by
  apply ByteArray.ext
  simp

set_option maxRecDepth 100000 in
set_option maxHeartbeats 1000000 in
theorem rhex_any (d : List UInt8) (hd : d.length = 32) (w : World) :
    Calls Tryd.prog 38 #[.agg (d.map B).toArray] w fun e w' => e = .returned (.string ⟨(hexOf d).toArray⟩) ∧ Below w.heap.size w w' := by
  replace hd := Lib.hid hd
  go_enter Tryd.func38, Tryd.ntmps38
  go_wp2
  go_loopw [4, 3] (fun i v wr => ∃ k : Nat, k ≤ 32 ∧ i = .int .i64 (k : Int) ∧ v = .string ⟨(hexOf (d.take k)).toArray⟩ ∧ Blk wr w.heap.size 57 (d.map B) ∧ Below w.heap.size w wr) (fun i _ _ => 32 - (intOf i).toNat)
  case atStart => exact ⟨0, by omega, rfl, rfl, Blk.new_at rfl, (Below.refl _ _).alloc (Nat.le_refl _) _⟩
  case round =>
    obtain ⟨k, hk, rfl, rfl, hB, hb⟩ := hrel
    obtain ⟨ys, hys⟩ : ∃ ys, ys = hexOf (d.take k) := ⟨_, rfl⟩
    have hyl : ys.length ≤ 64 := by rw [hys, hexOf_length, List.length_take]; omega
    rw [← hys]
    replace hys := Lib.hid hys
    by_cases hlt : k < 32
    · have hkl : k < d.length := by rw [hd.out]; exact hlt
      obtain ⟨x, hx⟩ : ∃ x, x = d.getD k 0 := ⟨_, rfl⟩
      have hcell : wr.cell? ⟨w.heap.size, k, none⟩ = some (B x) := by rw [hB.cell, hx]; simp [hkl]
      have hxlt := x.toNat_lt
      have b0 := bv_nonneg x
      have b1 := bv_lt x
      replace hx := Lib.hid hx
      replace hkl := Lib.hid hkl
      go_wp2
      refine wp_region_quiet_lit (by kernel_rfl) (by kernel_rfl) ?_
      repeat (first
        | (refine wpQuiet_slice_hex (.tmp 16) (.tmp 19) rfl rfl (x.toNat / 16) (by omega) ?_ ?_ ?_; exact congrArg (Value.int .i64) (show bv x / 16 = ((x.toNat / 16 : Nat) : Int) by unfold bv; omega); exact congrArg (Value.int .i64) (show bv x / 16 + 1 = ((x.toNat / 16 : Nat) : Int) + 1 by unfold bv; omega); go_frame)
        | (refine wpQuiet_slice_hex (.tmp 23) (.tmp 26) rfl rfl (x.toNat % 16) (by omega) ?_ ?_ ?_; exact congrArg (Value.int .i64) (show bv x % 16 = ((x.toNat % 16 : Nat) : Int) by unfold bv; omega); exact congrArg (Value.int .i64) (show bv x % 16 + 1 = ((x.toNat % 16 : Nat) : Int) + 1 by unfold bv; omega); go_frame)
        | go_big_quiet_step (fail))
      refine wpQuiet_nil ?_
      rintro _ ⟨nq, rfl⟩
      go_wp2
      go_roundw
      case rel =>
        refine ⟨k + 1, by omega, by go_num, ?_, hB.drewN nq, below_drewN hb nq⟩
        have h1 := str_app ys [hexD (x.toNat / 16)]
        have h2 := str_app (ys ++ [hexD (x.toNat / 16)]) [hexD (x.toNat % 16)]
        rw [hexOf_take d k hkl.out, ← hx.out, ← hys.out]
        refine congrArg Value.string ?_
        refine (congrArg (· ++ _) h1).trans (h2.trans ?_)
        simp
      case measure => simp [intOf]; omega
    · obtain rfl : k = 32 := by omega
      have hfin : ys = hexOf d := by rw [hys.out, List.take_of_length_le (by rw [hd.out]; omega)]
      rw [hfin]
      go_wp2
      go_ret
      exact ⟨rfl, hb⟩
end Go.Proofs.YtlenmkemjaaaoaaDoor
end
