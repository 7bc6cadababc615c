/- A byte as it stands in a quoted text. -/
import Derived.Test.YtamdhaoglapnnaaGreatDoorM02
import Derived.Test.YtamdhaoglapnnaaGreatDoorM04
import Derived.Test.YtamdhaoglapnnaaGreatDoorM07
import Derived.Handy
section
namespace Go.Proofs.YtamdhaoglapnnaaGreatDoor
open Go.RowKit

theorem and15 (k : Nat) (h : k < 256) : bits .and .u8 (k : Int) 15 = ((k % 16 : Nat) : Int) := by
  have := lo_eq (UInt8.ofNat k)
  unfold bv at this
  rw [show (UInt8.ofNat k).toNat = k by simp; omega] at this
  exact this
theorem hex_extract (n : Nat) (hn : n < 16) : (⟨#[48, 49, 50, 51, 52, 53, 54, 55, 56, 57, 97, 98, 99, 100, 101, 102]⟩ : ByteArray).extract n (n + 1) = ⟨#[hexD n]⟩ := by
  obtain rfl | rfl | rfl | rfl | rfl | rfl | rfl | rfl | rfl | rfl | rfl | rfl | rfl | rfl | rfl | rfl : n = 0 ∨ n = 1 ∨ n = 2 ∨ n = 3 ∨ n = 4 ∨ n = 5 ∨ n = 6 ∨ n = 7 ∨ n = 8 ∨ n = 9 ∨ n = 10 ∨ n = 11 ∨ n = 12 ∨ n = 13 ∨ n = 14 ∨ n = 15 := by omega
  all_goals rfl
theorem hex_text (k : Nat) (hk : k < 256) : (⟨#[92, 120]⟩ : ByteArray) ++ (⟨#[48, 49, 50, 51, 52, 53, 54, 55, 56, 57, 97, 98, 99, 100, 101, 102]⟩ : ByteArray).extract (k / 16) (k / 16 + 1) ++ (⟨#[48, 49, 50, 51, 52, 53, 54, 55, 56, 57, 97, 98, 99, 100, 101, 102]⟩ : ByteArray).extract (k % 16) (k % 16 + 1) = ⟨#[92, 120, hexD (k / 16), hexD (k % 16)]⟩ := by
  rw [hex_extract _ (by omega), hex_extract _ (by omega)]
  rfl
set_option maxRecDepth 100000 in
set_option maxHeartbeats 4000000 in
theorem quoted_hex (k : Nat) (hk : k < 256) (w : World) (h4 : k < 32 ∨ 126 < k) (h3 : k ≠ 10) :
    Calls Tryz.prog 24 #[.int .u8 (k : Int)] w fun e w' => e = .returned (.string ⟨#[92, 120, hexD (k / 16), hexD (k % 16)]⟩) ∧ Below w.heap.size w w' := by
  have q1 : ((k : Int) == 34) = false := by simp; omega
  have q2 : ((k : Int) == 92) = false := by simp; omega
  have q3 : ((k : Int) == 10) = false := by simp; omega
  have ha := Lib.hid (and15 k hk)
  have ht := hex_text k hk
  rw [← ht]
  clear ht
  rcases Nat.lt_or_ge k 32 with h5 | h5
  · have q4 : decide ((k : Int) < 32) = true := by simp; omega
    clear h4 h3
    go_enter Tryz.func24, Tryz.ntmps24
    go_wp2_with fail
    refine region_plan (fun w' => ∃ n, w' = w.drewN n) (.tail [0, 1, 2, 3, 4, 5, 6, 7, 8, 9, 10, 11, 12, 13]) 14 [] (by kernel_rfl) (by kernel_rfl) (fun _ d _ _ _ h => by cases d <;> exact h) ⟨1, rfl⟩ ?_
    simp only [wpPlan, pickOps, List.map_cons, List.map_nil, nthOp_zero, nthOp_succ]
    repeat (first | go_big_quiet_step (fail))
    refine wpQuiet_nil ?_
    go_wp2_with fail
    go_returns
    exact ⟨rfl, (Below.refl _ _).drew⟩
  · have q4 : decide ((k : Int) < 32) = false := by simp; omega
    have q5 : decide (126 < (k : Int)) = true := by simp; omega
    clear h4 h3
    go_enter Tryz.func24, Tryz.ntmps24
    go_wp2_with fail
    refine region_plan (fun w' => ∃ n, w' = w.drewN n) (.tail [0, 1, 2, 3, 4, 5, 6, 7, 8, 9, 10, 11, 12, 13]) 14 [] (by kernel_rfl) (by kernel_rfl) (fun _ d _ _ _ h => by cases d <;> exact h) ⟨1, rfl⟩ ?_
    simp only [wpPlan, pickOps, List.map_cons, List.map_nil, nthOp_zero, nthOp_succ]
    repeat (first | go_big_quiet_step (fail))
    refine wpQuiet_nil ?_
    go_wp2_with fail
    go_returns
    exact ⟨rfl, (Below.refl _ _).drew⟩
theorem quoted_nl (w : World) : Calls Tryz.prog 24 #[.int .u8 10] w fun e w' => e = .returned (.string ⟨#[92, 110]⟩) ∧ Below w.heap.size w w' := by
  go_enter Tryz.func24, Tryz.ntmps24
  go_wp2_with fail
  go_returns
  exact ⟨rfl, Below.refl _ _⟩
theorem bcast (k : Nat) (h : k < 256) : bv (UInt8.ofNat k) = (k : Int) := by unfold bv; simp; omega
set_option maxRecDepth 100000 in
set_option maxHeartbeats 4000000 in
theorem quoted_mark (k : Nat) (hk : k < 256) (w : World) (h : k = 34 ∨ k = 92) :
    Calls Tryz.prog 24 #[.int .u8 (k : Int)] w fun e w' => e = .returned (.string ⟨#[92, UInt8.ofNat k]⟩) ∧ Below w.heap.size w w' := by
  have hb : Hid (Below w.heap.size w (w.alloc (.cells #[.int .u8 92, .int .u8 (k : Int)] 5))) := Lib.hid ((Below.refl _ _).alloc (Nat.le_refl _) _)
  have hrd : Hid (Rd (w.alloc (.cells #[.int .u8 92, .int .u8 (k : Int)] 5)) (fun _ => True) (some ⟨w.heap.size, 0, none⟩) (([92, UInt8.ofNat k] : Str).map B)) := Lib.hid (Rd.of_blk (cs := [.int .u8 92, .int .u8 (k : Int)]) (r := []) (Blk.new_at rfl) (by simp [bv]; omega) trivial)
  rcases h with rfl | rfl
  all_goals
    go_enter Tryz.func24, Tryz.ntmps24
    go_wp2_with (first | (refine wpList_to_string rfl 49 9 (.tmp 11) rfl 5 Tryz.underlying49 Tryz.underlying5 Tryz.underlying9 (some ⟨w.heap.size, 0, none⟩) _ 2 rfl hrd.out ?_; go_frame) | fail)
    go_returns
    exact ⟨rfl, hb.out⟩
set_option maxRecDepth 100000 in
set_option maxHeartbeats 4000000 in
theorem quoted_bare (k : Nat) (hk : k < 256) (w : World) (h1 : k ≠ 34) (h2 : k ≠ 92) (h3 : 32 ≤ k) (h4 : k ≤ 126) :
    Calls Tryz.prog 24 #[.int .u8 (k : Int)] w fun e w' => e = .returned (.string ⟨#[UInt8.ofNat k]⟩) ∧ Below w.heap.size w w' := by
  have q1 : ((k : Int) == 34) = false := by simp; omega
  have q2 : ((k : Int) == 92) = false := by simp; omega
  have q3 : ((k : Int) == 10) = false := by simp; omega
  have q4 : decide ((k : Int) < 32) = false := by simp; omega
  have q5 : decide (126 < (k : Int)) = false := by simp; omega
  have hb : Hid (Below w.heap.size w (w.alloc (.cells #[.int .u8 (k : Int)] 5))) := Lib.hid ((Below.refl _ _).alloc (Nat.le_refl _) _)
  have hrd : Hid (Rd (w.alloc (.cells #[.int .u8 (k : Int)] 5)) (fun _ => True) (some ⟨w.heap.size, 0, none⟩) (([UInt8.ofNat k] : Str).map B)) := Lib.hid (Rd.of_blk (cs := [.int .u8 (k : Int)]) (r := []) (Blk.new_at rfl) (by simp [bcast k hk]) trivial)
  go_enter Tryz.func24, Tryz.ntmps24
  go_wp2_with (first | (refine wpList_to_string rfl 49 9 (.tmp 38) rfl 5 Tryz.underlying49 Tryz.underlying5 Tryz.underlying9 (some ⟨w.heap.size, 0, none⟩) _ 1 rfl hrd.out ?_; go_frame) | fail)
  go_returns
  exact ⟨rfl, hb.out⟩
theorem quoted_any (c : UInt8) (w : World) : Calls Tryz.prog 24 #[B c] w fun e w' => e = .returned (strV (quotedB c)) ∧ Below w.heap.size w w' := by
  have hc := c.toNat_lt
  have e0 : UInt8.ofNat c.toNat = c := by simp
  have e1 : ∀ d : UInt8, (c == d) = decide (c.toNat = d.toNat) := fun d => by
    rw [Bool.eq_iff_iff]
    simp [UInt8.toNat_inj]
  show Calls Tryz.prog 24 #[.int .u8 (c.toNat : Int)] w _
  unfold quotedB strV
  by_cases h1 : c.toNat = 34 ∨ c.toNat = 92
  · have e : (c == 34 || c == 92) = true := by rw [e1, e1]; simpa using h1
    rw [if_pos e, ← e0]
    simpa using quoted_mark c.toNat hc w h1
  · have e : ¬ (c == 34 || c == 92) = true := by rw [e1, e1]; simpa using h1
    rw [if_neg e]
    by_cases h2 : c.toNat = 10
    · have e' : (c == 10) = true := by rw [e1]; simpa using h2
      rw [if_pos e', h2]
      exact quoted_nl w
    · have e' : ¬ (c == 10) = true := by rw [e1]; simpa using h2
      rw [if_neg e']
      by_cases h3 : c.toNat < 32 ∨ 126 < c.toNat
      · have e2 : (decide (c < 32) || decide (126 < c)) = true := by simp [UInt8.lt_iff_toNat_lt]; omega
        rw [if_pos (by simpa using e2)]
        exact quoted_hex c.toNat hc w h3 h2
      · have e2 : ¬ (c < 32 || 126 < c) = true := by simp [UInt8.lt_iff_toNat_lt]; omega
        rw [if_neg (by simpa using e2)]
        have := quoted_bare c.toNat hc w (fun h => h1 (.inl h)) (fun h => h1 (.inr h)) (by omega) (by omega)
        rwa [e0] at this
end Go.Proofs.YtamdhaoglapnnaaGreatDoor
end
section
/- A text, quoted. -/
namespace Go.Proofs.YtamdhaoglapnnaaGreatDoor
open Go.RowKit

theorem byteC_one (s : Str) (c : UInt8) : Lib.byteCells (s ++ [c]) = Lib.byteCells s ++ [.int .u8 (bv c)] := by simp [Lib.byteCells, bv]
set_option maxRecDepth 100000 in
set_option maxHeartbeats 2000000 in
theorem wb_any (B b : Nat) (s : Str) (c : UInt8) (w : World) (h : BIs B b s w) (hl : s.length + 1 ≤ 140737488355328) (hBw : B ≤ w.heap.size) :
    Calls Tryz.prog 22 #[.pointer (some ⟨b, 0, none⟩), .int .u8 (bv c)] w fun e w' => e = .returned .nilIface ∧ BIs B b (s ++ [c]) w' ∧ Below B w w' ∧ KeepTag w w' := by
  have hcc := Lib.hid (cc_any B b s w h)
  have hcl := Lib.hid (byteC_len s)
  have happ := Lib.hid (byteC_one s c)
  clear h
  go_enter Tryz.func22, Tryz.ntmps22
  go_wp2_with fail
  refine hcc.out.mono ?_
  rintro e w1 ⟨rfl, h1, hb1, hk1⟩
  replace hk1 := Lib.hid hk1
  obtain ⟨hB, v, hbk, hown, hne⟩ := h1
  have c0 : w1.cell? ⟨b, 0, none⟩ = some (.pointer (some ⟨b, 0, none⟩)) := by rw [Lib.cell_of_heap hbk]; rfl
  have c1 : w1.cell? ⟨b, 1, none⟩ = some v := by rw [Lib.cell_of_heap hbk]; rfl
  have hs1 := hb1.size
  replace hown := Lib.hid hown
  replace hbk := Lib.hid hbk
  replace hne := Lib.hid hne
  replace hb1 := Lib.hid hb1
  go_wp2_with (at_builtin; refine wpList_append_rd _ rfl (.tmp 11) (.tmp 13) 49 rfl B 5 _ 1 1 Tryz.underlying49 info8 v _ (Lib.byteCells s) rfl (hown.out.alloc _) (fun _ => True) (some ⟨w1.heap.size, 0, none⟩) 1 1 [.int .u8 (bv c)] rfl rfl (Rd.of_blk (cs := [.int .u8 (bv c)]) (r := []) (Blk.new_at rfl) rfl trivial) (by simp [Value.oneCell']) (by rw [hcl.out]; unfold maxLen; omega) (by rw [hcl.out]; omega) (by simp; omega) ?_)
  intro v' w2 hown' hgrow _
  have hlt : b < w1.heap.size := by
    rcases Nat.lt_or_ge b w1.heap.size with h' | h'
    · exact h'
    · have := hbk.out; simp [Array.getElem?_eq_none h'] at this
  have hba : (w1.alloc (Obj.cells #[Value.int .u8 (bv c)] 5)).heap[b]? = some (.cells #[.pointer (some ⟨b, 0, none⟩), v] 51 (0, 0)) := by
    rw [Below.heap_alloc w1 _ b hlt]; exact hbk.out
  have hb2 : w2.heap[b]? = some (.cells #[.pointer (some ⟨b, 0, none⟩), v] 51 (0, 0)) := by
    rw [hgrow.block b (by simp; omega) (fun e => hne.out e.symm)]
    exact hba
  have d0 : w2.cell? ⟨b, 0, none⟩ = some (.pointer (some ⟨b, 0, none⟩)) := by rw [Lib.cell_of_heap hb2]; rfl
  have d1 : w2.cell? ⟨b, 1, none⟩ = some v := by rw [Lib.cell_of_heap hb2]; rfl
  have f1 : w2.frozen? ⟨b, 1, none⟩ = false := Lib.frozen_of_heap hb2 1
  obtain ⟨ao, n', cap, rfl⟩ : ∃ ao n' cap, v' = .slice ao n' cap := by
    rcases hown'.2 with ⟨hv, _⟩ | ⟨g, cap, cur, hv, _⟩
    · exact ⟨_, _, _, hv⟩
    · exact ⟨_, _, _, hv⟩
  have hka : KeepTag w1 (w1.alloc (Obj.cells #[Value.int .u8 (bv c)] 5)) := KeepTag.below ((Below.refl _ _).alloc (Nat.le_refl _) _)
  have hk2 := (hk1.out.trans hka).trans (KeepTag.grown (hown.out.alloc _) hgrow)
  have hbB : Below B w w2 := (hb1.out.alloc (Nat.le_trans hBw hs1) _).grown hgrow (by simp; omega) (fun k hk => (hown.out.lt k hk).1)
  replace hown' := Lib.hid hown'
  replace hgrow := Lib.hid hgrow
  replace hb2 := Lib.hid hb2
  replace hk2 := Lib.hid hk2
  replace hbB := Lib.hid hbB
  clear hba hka c0 c1
  go_wp2_with fail
  go_returns
  refine ⟨rfl, .inr ?_, ?_, hk2.out.trans (KeepTag.set_ hb2.out _)⟩
  · rw [happ.out]
    exact Lib.BuilderAt.put (T := 51) (e := 5) hB hb2.out (bs' := Lib.byteCells s ++ [.int .u8 (bv c)]) (by rw [List.length_append]; exact hown'.out) (by decide)
  · exact hbB.out.setCell (p := ⟨b, 1, none⟩) hB _
theorem quotes_take {s : Str} {k : Nat} (h : k < s.length) : 34 :: quotesB (s.take (k + 1)) = (34 :: quotesB (s.take k)) ++ quotedB s[k] := by
  rw [take_at h]
  simp only [quotesB, List.flatMap_append, List.flatMap_cons, List.flatMap_nil, List.append_nil, List.cons_append]
theorem quotes_len : ∀ t : Str, (quotesB t).length ≤ 4 * t.length
  | [] => by simp [quotesB]
  | c :: t => by
    have h := quotes_len t
    have h1 := quoted_len c
    simp only [quotesB, List.flatMap_cons, List.length_append, List.length_cons] at h ⊢
    omega
set_option maxRecDepth 100000 in
set_option maxHeartbeats 4000000 in
theorem quote_any (s : Str) (w : World) (hs : s.length ≤ 17592186044416) : Calls Tryz.prog 12 #[strV s] w fun e w' => e = .returned (strV (quoteS s)) ∧ Below w.heap.size w w' := by
  have hsz : (⟨s.toArray⟩ : ByteArray).size = s.length := strLn s
  unfold strV
  go_enter Tryz.func12, Tryz.ntmps12
  go_wp2_with fail
  generalize hW1 : World.alloc w _ = w1
  have hb1 : Below w.heap.size w w1 := by rw [← hW1]; exact (Below.refl _ _).alloc (Nat.le_refl _) _
  have hs1 : w.heap.size < w1.heap.size := by rw [← hW1]; simp
  have hbis : BIs w.heap.size w.heap.size [] w1 := by
    rw [← hW1]
    exact .inl ⟨Nat.le_refl _, _, heap_alloc_new w _, World.ownsRow_nil _ _ _ _, by simp [Value.ownBlock]⟩
  clear hW1
  refine (wb_any w.heap.size w.heap.size [] 34 w1 hbis (by simp) (by omega)).mono ?_
  rintro e w2 ⟨rfl, hB2, hb2, _⟩
  have hb2' := hb1.trans hb2
  clear hb1 hb2 hbis
  go_wp2_with fail
  go_loopw [8] (fun i wr => ∃ k : Nat, k ≤ s.length ∧ i = .int .i64 k ∧ BIs w.heap.size w.heap.size (34 :: quotesB (s.take k)) wr ∧ Below w.heap.size w wr) (fun i _ => s.length - (intOf i).toNat)
  case atStart => exact ⟨0, Nat.zero_le _, rfl, by simpa [quotesB] using hB2, hb2'⟩
  case round =>
    obtain ⟨k, hk, rfl, hB, hb⟩ := hrel
    have hql := quotes_len (s.take k)
    have htl : (s.take k).length = k := by rw [List.length_take]; omega
    by_cases hlt : k < s.length
    · have hstep := quotes_take hlt
      have hidx := index_strB s k hlt
      have hqa := quoted_any s[k]
      have hq1 := quoted_len s[k]
      obtain ⟨c, hc⟩ : ∃ c, c = s[k] := ⟨_, rfl⟩
      obtain ⟨q, hq⟩ : ∃ q, q = quotedB s[k] := ⟨_, rfl⟩
      obtain ⟨p, hp⟩ : ∃ p, p = 34 :: quotesB (s.take k) := ⟨_, rfl⟩
      rw [← hq, ← hp] at hstep
      rw [← hq] at hqa hq1
      rw [← hc] at hqa hidx
      rw [← hp] at hB
      have hpl : p.length ≤ 1 + 4 * k := by rw [hp]; simp only [List.length_cons]; omega
      unfold strV at hqa
      clear hc hq hp hql htl
      replace hstep := Lib.hid hstep
      replace hqa := Lib.hid hqa
      replace hb := Lib.hid hb
      have hsz := hb.out.size
      go_wp2_with fail
      refine (hqa.out wr).mono ?_
      rintro e w3 ⟨rfl, hb3⟩
      have hB3 := bis_below hB hb3
      have hb3' := hb.out.trans (hb3.mono hb.out.size)
      go_wp2_with fail
      refine (ws_any w.heap.size w.heap.size p q w3 hB3 (by omega) hb3'.size).mono ?_
      rintro e w4 ⟨rfl, hB4, hb4, _⟩
      have hb4' := hb3'.trans hb4
      clear hB3 hb3 hb3' hb4 hB
      replace hB4 := Lib.hid hB4
      go_wp2_with fail
      go_roundw
      case rel => exact ⟨k + 1, by omega, by go_num, by rw [hstep.out]; exact hB4.out, hb4'⟩
      case measure => simp [intOf]; omega
    · obtain rfl : k = s.length := by omega
      rw [List.take_length] at hB hql
      clear htl hlt
      obtain ⟨q, hq⟩ : ∃ q, q = quotesB s := ⟨_, rfl⟩
      rw [← hq] at hB hql
      have hqs : Hid (quoteS s = 34 :: q ++ [34]) := Lib.hid (by rw [hq]; rfl)
      clear hq
      have hsz := hb.size
      replace hb := Lib.hid hb
      go_wp2_with fail
      refine (wb_any w.heap.size w.heap.size (34 :: q) 34 wr hB (by simp only [List.length_cons]; omega) hsz).mono ?_
      rintro e w3 ⟨rfl, hB3, hb3, _⟩
      have hb3' := hb.out.trans hb3
      have hstr := Tryz.Builder_String_any w.heap.size w.heap.size (34 :: q ++ [34]) w3 hB3 hb3'.size
      rw [← hqs.out] at hstr
      clear hB3 hb3 hB
      replace hb3' := Lib.hid hb3'
      go_wp2_with fail
      refine hstr.mono ?_
      rintro e w4 ⟨rfl, hb4⟩
      have hb4' := hb3'.out.trans hb4
      replace hb4' := Lib.hid hb4'
      go_wp2_with fail
      go_returns
      exact ⟨rfl, hb4'.out⟩
end Go.Proofs.YtamdhaoglapnnaaGreatDoor
end
