/- The walks of digest.Parse, of the reference's digit, Parse and Hex. -/
import Derived.Test.YtlenmkemjaaaoaaDoorHex
import Derived.Test.YtlenmkemjaaaoaaDoorBelowQ
import Derived.Laws.ResultCell
namespace Go.Proofs.YtlenmkemjaaaoaaDoor
open Go.RowKit

def digitV (c : UInt8) : Nat := if 48 ≤ c ∧ c ≤ 57 then c.toNat - 48 else if 97 ≤ c ∧ c ≤ 102 then c.toNat - 97 + 10 else 16
theorem digitV_all : ∀ n : Fin 256, digitV (UInt8.ofNat n.1) ≤ 16 ∧ (digitV (UInt8.ofNat n.1) < 16 → hexD (digitV (UInt8.ofNat n.1)) = UInt8.ofNat n.1) := by decide +kernel
theorem digitV_hexD : ∀ n : Fin 16, digitV (hexD n.1) = n.1 := by decide +kernel
theorem digitV_le (c : UInt8) : digitV c ≤ 16 := by
  have := (digitV_all ⟨c.toNat, c.toNat_lt⟩).1
  simpa using this
theorem hexD_digitV (c : UInt8) (h : digitV c < 16) : hexD (digitV c) = c := by
  have := (digitV_all ⟨c.toNat, c.toNat_lt⟩).2
  simp only [UInt8.ofNat_toNat] at this
  exact this h
theorem digitV_found (c : UInt8) (n : Nat) (hn : n < 16) (h : hexD n = c) : digitV c = n := by
  rw [← h]; exact digitV_hexD ⟨n, hn⟩
theorem digitV_none (c : UInt8) (h : ∀ j, j < 16 → hexD j ≠ c) : digitV c = 16 := by
  have h1 := digitV_le c
  rcases Nat.lt_or_ge (digitV c) 16 with h2 | h2
  · exact absurd (hexD_digitV c h2) (h _ h2)
  · omega

/-- What the digest holds behind k letters. -/
def dAfter (l : List UInt8) : Nat → List UInt8
  | 0 => List.replicate 32 0
  | k + 1 => (dAfter l k).set (k / 2) ((dAfter l k).getD (k / 2) 0 * 16 + UInt8.ofNat (digitV (l.getD k 0)))
theorem dAfter_length (l : List UInt8) (k : Nat) : (dAfter l k).length = 32 := by
  induction k with
  | zero => rfl
  | succ k ih => simp [dAfter, ih]
def pok (l : List UInt8) : Bool := decide (l.length = 64) && l.all (fun c => decide (digitV c < 16))
def pd (l : List UInt8) : List UInt8 := if pok l then dAfter l 64 else List.replicate 32 0
theorem pd_length (l : List UInt8) : (pd l).length = 32 := by
  unfold pd; split
  · exact dAfter_length _ _
  · rfl

theorem index_hex64 (n : Nat) (hn : n < 16) (w : World) : (Instr.index 9 (.string digitsB) (.int .i64 (n : Int))).run Tryd.prog w = .ok (B (hexD n)) w := by
  obtain rfl | rfl | rfl | rfl | rfl | rfl | rfl | rfl | rfl | rfl | rfl | rfl | rfl | rfl | rfl | rfl : n = 0 ∨ n = 1 ∨ n = 2 ∨ n = 3 ∨ n = 4 ∨ n = 5 ∨ n = 6 ∨ n = 7 ∨ n = 8 ∨ n = 9 ∨ n = 10 ∨ n = 11 ∨ n = 12 ∨ n = 13 ∨ n = 14 ∨ n = 15 := by omega
  all_goals kernel_rfl
theorem index_str (l : List UInt8) (k : Nat) (hk : k < l.length) (w : World) : (Instr.index 9 (.string ⟨l.toArray⟩) (.int .i64 (k : Int))).run Tryd.prog w = .ok (B (l.getD k 0)) w := by
  have h0 : (⟨l.toArray⟩ : ByteArray)[k]? = some l[k] := by
    have hs : k < (⟨l.toArray⟩ : ByteArray).size := by simpa [ByteArray.size] using hk
    rw [getElem?_pos (⟨l.toArray⟩ : ByteArray) k hs]
    rfl
  simp [Instr.index, asIntOf, run_underlying Tryd.underlying9, h0, hk, bv]

theorem digitV_lo (c : UInt8) (h1 : 48 ≤ bv c) (h2 : bv c ≤ 57) : ((digitV c : Nat) : Int) = bv c - 48 := by
  unfold bv at h1 h2 ⊢
  have : 48 ≤ c ∧ c ≤ 57 := by simp only [UInt8.le_iff_toNat_le]; exact ⟨by simp; omega, by simp; omega⟩
  rw [digitV, if_pos this]; omega
theorem digitV_hi (c : UInt8) (h1 : 97 ≤ bv c) (h2 : bv c ≤ 102) : ((digitV c : Nat) : Int) = bv c - 97 + 10 := by
  unfold bv at h1 h2 ⊢
  have h3 : ¬ (48 ≤ c ∧ c ≤ 57) := by simp only [UInt8.le_iff_toNat_le]; simp; omega
  have h4 : 97 ≤ c ∧ c ≤ 102 := by simp only [UInt8.le_iff_toNat_le]; exact ⟨by simp; omega, by simp; omega⟩
  rw [digitV, if_neg h3, if_pos h4]; omega
theorem digitV_no (c : UInt8) (h1 : ¬ (48 ≤ bv c ∧ bv c ≤ 57)) (h2 : ¬ (97 ≤ bv c ∧ bv c ≤ 102)) : ((digitV c : Nat) : Int) = 16 := by
  unfold bv at h1 h2
  have h3 : ¬ (48 ≤ c ∧ c ≤ 57) := by simp only [UInt8.le_iff_toNat_le]; simp; omega
  have h4 : ¬ (97 ≤ c ∧ c ≤ 102) := by simp only [UInt8.le_iff_toNat_le]; simp; omega
  rw [digitV, if_neg h3, if_neg h4]; rfl

theorem ret_i64 {a b : Int} (h : a = b) : Ending.returned (.int .i64 a) = .returned (.int .i64 b) := by rw [h]
set_option maxHeartbeats 400000 in
theorem digit_any (c : UInt8) (w : World) :
    Calls Tryd.prog 73 #[B c] w fun e w' => e = .returned (.int .i64 (digitV c : Int)) ∧ w = w' := by
  have b0 := bv_nonneg c
  have b1 := bv_lt c
  have e1 := Lib.hid (digitV_lo c)
  have e2 := Lib.hid (digitV_hi c)
  have e3 := Lib.hid (digitV_no c)
  obtain ⟨d, hd⟩ : ∃ d : Int, d = ((digitV c : Nat) : Int) := ⟨_, rfl⟩
  rw [← hd] at e1 e2 e3 ⊢
  clear hd
  by_cases h1 : 48 ≤ bv c
  · by_cases h2 : bv c ≤ 57
    · go_enter Tryd.func73, Tryd.ntmps73
      go_wp2
      go_ret
      exact ⟨ret_i64 (by rw [e1.out h1 h2]), rfl⟩
    · by_cases h3 : 97 ≤ bv c
      · by_cases h4 : bv c ≤ 102
        · go_enter Tryd.func73, Tryd.ntmps73
          go_wp2
          go_ret
          exact ⟨ret_i64 (by rw [e2.out h3 h4]), rfl⟩
        · go_enter Tryd.func73, Tryd.ntmps73
          go_wp2
          go_ret
          exact ⟨ret_i64 (by rw [e3.out (by omega) (by omega)]), rfl⟩
      · go_enter Tryd.func73, Tryd.ntmps73
        go_wp2
        go_ret
        exact ⟨ret_i64 (by rw [e3.out (by omega) (by omega)]), rfl⟩
  · have h3 : ¬ 97 ≤ bv c := by omega
    go_enter Tryd.func73, Tryd.ntmps73
    go_wp2
    go_ret
    exact ⟨ret_i64 (by rw [e3.out (by omega) (by omega)]), rfl⟩

theorem step16 : ∀ (x : Fin 256) (n : Fin 16), (UInt8.ofNat x.1 * 16 + UInt8.ofNat n.1).toNat = (x.1 * 16 + n.1) % 256 ∧ (x.1 * 16 % 256 ||| n.1) = (x.1 * 16 + n.1) % 256 := by decide +kernel
theorem step_mul (x : UInt8) (n : Nat) (hn : n < 16) : (bv x * 16 + (n : Int)) % 256 = bv (x * 16 + UInt8.ofNat n) := by
  have := (step16 ⟨x.toNat, x.toNat_lt⟩ ⟨n, hn⟩).1
  simp only [UInt8.ofNat_toNat] at this
  unfold bv
  rw [this]; omega
theorem step_mul' (x : UInt8) (n : Nat) (hn : n < 16) : bv x * 16 % 256 + (n : Int) = bv (x * 16 + UInt8.ofNat n) := by
  rw [← step_mul x n hn]; omega
theorem step_or (x : UInt8) (n : Nat) (hn : n < 16) : bits .or .u8 (bv x * 16 % 256) (n : Int) = bv (x * 16 + UInt8.ofNat n) := by
  have h := step16 ⟨x.toNat, x.toNat_lt⟩ ⟨n, hn⟩
  simp only [UInt8.ofNat_toNat] at h
  have e1 : bv x * 16 % 256 = bv (UInt8.ofNat (x.toNat * 16 % 256)) := by
    unfold bv; simp
  have e2 : (n : Int) = bv (UInt8.ofNat n) := by
    unfold bv; simp; omega
  rw [e1, e2, b_or]
  unfold bv
  rw [h.1, UInt8.toNat_or, ← h.2]
  congr 1
  have h1 : (UInt8.ofNat (x.toNat * 16 % 256)).toNat = x.toNat * 16 % 256 := by simp
  have h2 : (UInt8.ofNat n).toNat = n := by simp; omega
  rw [h1, h2]
/-- The end of a function with a result in a block and one in a slot. -/
theorem ret_blk2 {P : Program} {fn : Func} {R : Ending → World → Prop} {a : Act} {w : World} {p u : Tmp} {ty : TypeId} (hres : fn.results = #[.cell p ty, .tmp u]) (g : Nat) (t : TypeId) (cs : List Value) (d : TypeDesc) (v2 : Value)
    (hp : a.tmps.getD p undef = .pointer (some ⟨g, 0, none⟩)) (hv : a.tmps.getD u undef = v2) (hg : Blk w g t cs) (hu : P.underlying ty = some d) (hd : (match d with | .struct _ | .array _ _ => true | _ => false) = true)
    (hi : (P.info? ty).map (·.size) = some cs.length) (hdef : a.defers = []) (hR : R (.returned (.tuple #[.agg cs.toArray, v2])) w) : bodyPost P fn R .ret a w := by
  refine bodyPost_ret ?_ hdef hR
  rw [results_cell_tmp hres, hp, hv]
  have h1 : (asAddr (.pointer (some ⟨g, 0, none⟩))).run P w = .ok (⟨g, 0, none⟩ : Addr) w := by simp [asAddr]
  rw [h1, Result.andThen_ok, run_loadVar_row w g t ty cs.toArray (0, 0) d hg hu hd (by simpa using hi), Result.andThen_ok]

def PR (w : World) (l : List UInt8) (k : Nat) (wr : World) : Prop :=
  (∀ j, j < k → digitV (l.getD j 0) < 16) ∧ Blk wr w.heap.size 57 zero32 ∧ Blk wr (w.heap.size + 1) 57 ((dAfter l k).map B) ∧ Below w.heap.size w wr
theorem pok_of {l : List UInt8} (hl : l.length = 64) (h : ∀ j, j < 64 → digitV (l.getD j 0) < 16) : pok l = true := by
  unfold pok
  simp only [hl, decide_true, Bool.true_and, List.all_eq_true, decide_eq_true_eq]
  intro c hc
  obtain ⟨j, hj, rfl⟩ := List.getElem_of_mem hc
  have := h j (by omega)
  simpa [hj] using this
theorem pok_not {l : List UInt8} (j : Nat) (hj : j < l.length) (h : ¬ digitV (l.getD j 0) < 16) : pok l = false := by
  unfold pok
  rw [Bool.and_eq_false_iff]; right
  rw [List.all_eq_false]
  exact ⟨l[j], List.getElem_mem hj, by simpa [hj] using h⟩
theorem pok_len {l : List UInt8} (h : l.length ≠ 64) : pok l = false := by simp [pok, h]

set_option maxRecDepth 100000 in
set_option maxHeartbeats 1000000 in
theorem rparse_any (l : List UInt8) (w : World) :
    Calls Tryd.prog 46 #[.string ⟨l.toArray⟩] w fun e w' => e = .returned (.tuple #[.agg ((pd l).map B).toArray, .bool (pok l)]) ∧ Below w.heap.size w w' := by
  have hz := (zero_of_info zeros32).1
  have hsz : (⟨l.toArray⟩ : ByteArray).size = l.length := by simp [ByteArray.size]
  obtain ⟨n, hn⟩ : ∃ n, n = l.length := ⟨_, rfl⟩
  rw [← hn] at hsz
  by_cases h64 : n = 64
  · have hl64 : l.length = 64 := by omega
    have hb : (((n : Nat) : Int) != 64) = false := by rw [bne_eq_false_iff_eq]; omega
    replace hn := Lib.hid hn
    replace h64 := Lib.hid h64
    replace hl64 := Lib.hid hl64
    go_enter Tryd.func46, Tryd.ntmps46
    go_wp2
    go_loopw [5] (fun i wr => ∃ k : Nat, k ≤ 64 ∧ i = .int .i64 (k : Int) ∧ PR w l k wr) (fun i _ => 64 - (intOf i).toNat)
    case atStart => exact ⟨0, by omega, rfl, fun _ h => absurd h (by omega), (Blk.new_at rfl).alloc _, Blk.new_at (cs := zero32) (by simp), ((Below.refl _ _).alloc (Nat.le_refl _) _).alloc (by simp) _⟩
    case round =>
      obtain ⟨k, hk, rfl, hP⟩ := hrel
      by_cases hlt : k < 64
      · have hkl : k < l.length := by rw [hl64.out]; exact hlt
        obtain ⟨c, hc⟩ : ∃ c, c = l.getD k 0 := ⟨_, rfl⟩
        have hidx := index_str l k hkl
        rw [← hc] at hidx
        obtain ⟨x, hx⟩ : ∃ x, x = (dAfter l k).getD (k / 2) 0 := ⟨_, rfl⟩
        have hcell : wr.cell? ⟨w.heap.size + 1, k / 2, none⟩ = some (B x) := by
          rw [hP.2.2.1.cell, hx]
          have : k / 2 < (dAfter l k).length := by rw [dAfter_length]; omega
          simp [this]
        have hfz := hP.2.2.1.frozen (k / 2)
        obtain ⟨n2, hn2⟩ : ∃ n2, n2 = digitV c := ⟨_, rfl⟩
        have hdig := digit_any c
        rw [← hn2] at hdig
        have hle : n2 ≤ 16 := by rw [hn2]; exact digitV_le c
        replace hdig := Lib.hid hdig
        replace hn2 := Lib.hid hn2
        replace hc := Lib.hid hc
        replace hx := Lib.hid hx
        replace hkl := Lib.hid hkl
        by_cases h16 : n2 < 16
        · have hb2 : (((n2 : Nat) : Int) == 16) = false := by rw [beq_eq_false_iff_ne]; omega
          go_wp2_with (go_at_call 73; refine (hdig.out _).mono ?_; rintro e w1 ⟨rfl, rfl⟩)
          go_roundw
          case rel =>
            refine ⟨k + 1, by omega, by go_num, ?_, hP.2.1.far (by simp) _, ?_, hP.2.2.2.setCell (by simp) _⟩
            · intro j hj
              rcases Nat.lt_or_ge j k with h | h
              · exact hP.1 j h
              · obtain rfl : j = k := by omega
                rw [← hc.out, ← hn2.out]; exact h16
            · have h3 := hP.2.2.1.set_ (k / 2) (B (x * 16 + UInt8.ofNat n2))
              rw [← List.map_set] at h3
              show Blk _ _ _ ((dAfter l (k + 1)).map B)
              rw [dAfter, ← hx.out, ← hc.out, ← hn2.out, step_mul' x n2 h16]
              exact h3
          case measure => simp [intOf]; omega
        · have hb2 : (((n2 : Nat) : Int) == 16) = true := by rw [beq_iff_eq]; omega
          have hp : pok l = false := pok_not k hkl.out (by rw [← hc.out, ← hn2.out]; exact h16)
          have hd : pd l = List.replicate 32 0 := by unfold pd; rw [hp]; rfl
          replace hp := Lib.hid hp
          replace hd := Lib.hid hd
          go_wp2_with (first
            | (go_at_call 73; refine (hdig.out _).mono ?_; rintro e w1 ⟨rfl, rfl⟩)
            | (refine wpList_run (.build 57 #[]) rfl rfl (.agg zero32.toArray) (by kernel_rfl) ?_)
            | (refine wpList_store_blk rfl 57 (.tmp 2) (.tmp 21) rfl w.heap.size zero32 rfl rfl 57 zero32 hP.2.1 rfl (by kernel_rfl) (all_B (List.replicate 32 0)) ?_))
          refine ret_blk2 Tryd.results46 w.heap.size 57 zero32 _ (.bool false) rfl rfl (hP.2.1.setRow_same _) Tryd.underlying57 rfl (by kernel_rfl) rfl ?_
          exact ⟨by rw [hp.out, hd.out]; rfl, below_setRow hP.2.2.2 (Nat.le_refl _) _⟩
      · obtain rfl : k = 64 := by omega
        have hp : pok l = true := pok_of hl64.out hP.1
        have hd : pd l = dAfter l 64 := by unfold pd; rw [hp]; rfl
        have hB := hP.2.2.1
        rw [← hd] at hB
        have hsz2 : (Tryd.prog.info? 57).map (·.size) = some ((pd l).map B).length := by rw [List.length_map, pd_length]; kernel_rfl
        have hlen2 : zero32.length = ((pd l).map B).length := by rw [List.length_map, pd_length]; rfl
        replace hp := Lib.hid hp
        replace hd := Lib.hid hd
        replace hsz2 := Lib.hid hsz2
        replace hlen2 := Lib.hid hlen2
        go_wp2_with (first
          | (refine wpList_load_blk rfl 57 (.tmp 4) rfl (w.heap.size + 1) rfl 57 ((pd l).map B) hB _ Tryd.underlying57 rfl hsz2.out ?_)
          | (refine wpList_store_blk rfl 57 (.tmp 2) (.tmp 33) rfl w.heap.size ((pd l).map B) rfl rfl 57 zero32 hP.2.1 hlen2.out hsz2.out (all_B _) ?_))
        refine ret_blk2 Tryd.results46 w.heap.size 57 ((pd l).map B) _ (.bool true) rfl rfl (hP.2.1.setRow_same _) Tryd.underlying57 rfl hsz2.out rfl ?_
        exact ⟨by rw [hp.out], below_setRow hP.2.2.2 (Nat.le_refl _) _⟩
  · have hb : (((n : Nat) : Int) != 64) = true := by rw [bne_iff_ne]; omega
    have hp : pok l = false := pok_len (by omega)
    have hd : pd l = List.replicate 32 0 := by unfold pd; rw [hp]; rfl
    rw [hp, hd]
    replace hn := Lib.hid hn
    clear hp hd
    go_enter Tryd.func46, Tryd.ntmps46
    go_wp2_with (first
      | (refine wpList_run (.build 57 #[]) rfl rfl (.agg zero32.toArray) (by kernel_rfl) ?_)
      | (refine wpList_store_blk rfl 57 (.tmp 2) (.tmp 10) rfl w.heap.size zero32 rfl rfl 57 zero32 (Blk.new_at rfl) rfl (by kernel_rfl) (all_B (List.replicate 32 0)) ?_))
    refine ret_blk2 Tryd.results46 w.heap.size 57 zero32 _ (.bool false) rfl rfl ((Blk.new_at rfl).setRow_same _) Tryd.underlying57 rfl (by kernel_rfl) rfl ?_
    exact ⟨rfl, below_setRow ((Below.refl _ _).alloc (Nat.le_refl _) _) (Nat.le_refl _) _⟩
end Go.Proofs.YtlenmkemjaaaoaaDoor
