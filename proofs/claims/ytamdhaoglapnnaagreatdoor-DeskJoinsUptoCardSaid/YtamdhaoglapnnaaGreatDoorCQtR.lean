/- The reference's quoted texts. -/
import Derived.Test.YtamdhaoglapnnaaGreatDoorM42
namespace Go.Proofs.YtamdhaoglapnnaaGreatDoor
open Go.RowKit

theorem cat_strR (p q : Str) : (⟨p.toArray⟩ : ByteArray) ++ ⟨q.toArray⟩ = ⟨(p ++ q).toArray⟩ := by
  apply ByteArray.ext
  simp
set_option maxRecDepth 100000 in
set_option maxHeartbeats 4000000 in
theorem byteAs_nl (w : World) : Calls Tryz.prog 30 #[.int .u8 10] w fun e w' => e = .returned (.string ⟨#[92, 110]⟩) ∧ Below w.heap.size w w' := by
  go_enter Tryz.func30, Tryz.ntmps30
  go_wp2_with fail
  go_returns
  exact ⟨rfl, Below.refl _ _⟩
set_option maxRecDepth 100000 in
set_option maxHeartbeats 4000000 in
theorem byteAs_mark (k : Nat) (hk : k < 256) (w : World) (h : k = 34 ∨ k = 92) :
    Calls Tryz.prog 30 #[.int .u8 (k : Int)] w fun e w' => e = .returned (.string ⟨#[92, UInt8.ofNat k]⟩) ∧ Below w.heap.size w w' := by
  have hb : Hid (Below w.heap.size w (w.alloc (.cells #[.int .u8 (k : Int)] 5))) := Lib.hid ((Below.refl _ _).alloc (Nat.le_refl _) _)
  have hrd : Hid (Rd (w.alloc (.cells #[.int .u8 (k : Int)] 5)) (fun _ => True) (some ⟨w.heap.size, 0, none⟩) (([UInt8.ofNat k] : Str).map B)) := Lib.hid (Rd.of_blk (cs := [.int .u8 (k : Int)]) (r := []) (Blk.new_at rfl) (by simp [bcast k hk]) trivial)
  have hc : (⟨#[92]⟩ : ByteArray) ++ ⟨([UInt8.ofNat k] : Str).toArray⟩ = ⟨#[92, UInt8.ofNat k]⟩ := rfl
  replace hc := Lib.hid hc
  rcases h with rfl | rfl
  all_goals
    go_enter Tryz.func30, Tryz.ntmps30
    go_wp2_with (first | (refine wpList_to_string rfl 49 9 (.tmp 11) rfl 5 Tryz.underlying49 Tryz.underlying5 Tryz.underlying9 (some ⟨w.heap.size, 0, none⟩) _ 1 rfl hrd.out ?_; go_frame) | fail)
    go_returns
    exact ⟨by rw [← hc.out]; rfl, hb.out⟩
set_option maxRecDepth 100000 in
set_option maxHeartbeats 4000000 in
theorem byteAs_bare (k : Nat) (hk : k < 256) (w : World) (h1 : k ≠ 34) (h2 : k ≠ 92) (h3 : 32 ≤ k) (h4 : k ≤ 126) :
    Calls Tryz.prog 30 #[.int .u8 (k : Int)] w fun e w' => e = .returned (.string ⟨#[UInt8.ofNat k]⟩) ∧ Below w.heap.size w w' := by
  have q1 : ((k : Int) == 34) = false := by simp; omega
  have q2 : ((k : Int) == 92) = false := by simp; omega
  have q3 : ((k : Int) == 10) = false := by simp; omega
  have q4 : decide ((k : Int) < 32) = false := by simp; omega
  have q5 : decide (126 < (k : Int)) = false := by simp; omega
  have hb : Hid (Below w.heap.size w (w.alloc (.cells #[.int .u8 (k : Int)] 5))) := Lib.hid ((Below.refl _ _).alloc (Nat.le_refl _) _)
  have hrd : Hid (Rd (w.alloc (.cells #[.int .u8 (k : Int)] 5)) (fun _ => True) (some ⟨w.heap.size, 0, none⟩) (([UInt8.ofNat k] : Str).map B)) := Lib.hid (Rd.of_blk (cs := [.int .u8 (k : Int)]) (r := []) (Blk.new_at rfl) (by simp [bcast k hk]) trivial)
  go_enter Tryz.func30, Tryz.ntmps30
  go_wp2_with (first | (refine wpList_to_string rfl 49 9 (.tmp 39) rfl 5 Tryz.underlying49 Tryz.underlying5 Tryz.underlying9 (some ⟨w.heap.size, 0, none⟩) _ 1 rfl hrd.out ?_; go_frame) | fail)
  go_returns
  exact ⟨rfl, hb.out⟩
set_option maxRecDepth 100000 in
set_option maxHeartbeats 4000000 in
theorem byteAs_hex (k : Nat) (hk : k < 256) (w : World) (h4 : k < 32 ∨ 126 < k) (h3 : k ≠ 10) :
    Calls Tryz.prog 30 #[.int .u8 (k : Int)] w fun e w' => e = .returned (.string ⟨#[92, 120, hexD (k / 16), hexD (k % 16)]⟩) ∧ Below w.heap.size w w' := by
  have q1 : ((k : Int) == 34) = false := by simp; omega
  have q2 : ((k : Int) == 92) = false := by simp; omega
  have q3 : ((k : Int) == 10) = false := by simp; omega
  have ht := hex_text k hk
  rw [← ht]
  clear ht
  haveI := over_nonempty w
  have g1 : k / 16 < 16 := by omega
  have g2 : k % 16 < 16 := by omega
  have e1 : IntKind.i64.wrap (((k / 16 : Nat) : Int) + 1) = ((k / 16 : Nat) : Int) + 1 := IntWalk.i64_in _ (by omega)
  have e2 : IntKind.i64.wrap (((k % 16 : Nat) : Int) + 1) = ((k % 16 : Nat) : Int) + 1 := IntWalk.i64_in _ (by omega)
  rcases Nat.lt_or_ge k 32 with h5 | h5
  · have q4 : decide ((k : Int) < 32) = true := by simp; omega
    clear h4 h3
    go_enter Tryz.func30, Tryz.ntmps30
    go_wp2_with fail
    refine quiet_over (by kernel_rfl) (by kernel_rfl) ?_
    repeat (first
      | go_big_quiet_step (fail)
      | (refine wpQuiet_run _ (rfl : _ = Op.binOp .quo 3 (.tmp 24) (.const (.int .i64 16)) 3) rfl (.int .i64 ((k / 16 : Nat) : Int)) (fun w _ => ?_) ?_
         · go_simp
           exact IntWalk.i64_in _ (by omega)
         go_frame)
      | (refine wpQuiet_run _ (rfl : _ = Op.binOp .quo 3 (.tmp 26) (.const (.int .i64 16)) 3) rfl (.int .i64 ((k / 16 : Nat) : Int)) (fun w _ => ?_) ?_
         · go_simp
           exact IntWalk.i64_in _ (by omega)
         go_frame)
      | (refine wpQuiet_run _ (rfl : _ = Op.binOp .rem 3 (.tmp 31) (.const (.int .i64 16)) 3) rfl (.int .i64 ((k % 16 : Nat) : Int)) (fun w _ => ?_) ?_
         · go_simp
           exact IntWalk.i64_in _ (by omega)
         go_frame)
      | (refine wpQuiet_run _ (rfl : _ = Op.binOp .rem 3 (.tmp 33) (.const (.int .i64 16)) 3) rfl (.int .i64 ((k % 16 : Nat) : Int)) (fun w _ => ?_) ?_
         · go_simp
           exact IntWalk.i64_in _ (by omega)
         go_frame))
    refine wpQuiet_nil ?_
    rintro _ ⟨s7, rfl⟩
    go_wp2_with fail
    go_returns
    exact ⟨rfl, s7.2⟩
  · have q4 : decide ((k : Int) < 32) = false := by simp; omega
    have q5 : decide (126 < (k : Int)) = true := by simp; omega
    clear h4 h3
    go_enter Tryz.func30, Tryz.ntmps30
    go_wp2_with fail
    refine quiet_over (by kernel_rfl) (by kernel_rfl) ?_
    repeat (first
      | go_big_quiet_step (fail)
      | (refine wpQuiet_run _ (rfl : _ = Op.binOp .quo 3 (.tmp 24) (.const (.int .i64 16)) 3) rfl (.int .i64 ((k / 16 : Nat) : Int)) (fun w _ => ?_) ?_
         · go_simp
           exact IntWalk.i64_in _ (by omega)
         go_frame)
      | (refine wpQuiet_run _ (rfl : _ = Op.binOp .quo 3 (.tmp 26) (.const (.int .i64 16)) 3) rfl (.int .i64 ((k / 16 : Nat) : Int)) (fun w _ => ?_) ?_
         · go_simp
           exact IntWalk.i64_in _ (by omega)
         go_frame)
      | (refine wpQuiet_run _ (rfl : _ = Op.binOp .rem 3 (.tmp 31) (.const (.int .i64 16)) 3) rfl (.int .i64 ((k % 16 : Nat) : Int)) (fun w _ => ?_) ?_
         · go_simp
           exact IntWalk.i64_in _ (by omega)
         go_frame)
      | (refine wpQuiet_run _ (rfl : _ = Op.binOp .rem 3 (.tmp 33) (.const (.int .i64 16)) 3) rfl (.int .i64 ((k % 16 : Nat) : Int)) (fun w _ => ?_) ?_
         · go_simp
           exact IntWalk.i64_in _ (by omega)
         go_frame))
    refine wpQuiet_nil ?_
    rintro _ ⟨s7, rfl⟩
    go_wp2_with fail
    go_returns
    exact ⟨rfl, s7.2⟩
theorem byteAs_any (c : UInt8) (w : World) : Calls Tryz.prog 30 #[B c] w fun e w' => e = .returned (strV (quotedB c)) ∧ Below w.heap.size w w' := by
  have hc := c.toNat_lt
  have e0 : UInt8.ofNat c.toNat = c := by simp
  have e1 : ∀ d : UInt8, (c == d) = decide (c.toNat = d.toNat) := fun d => u8s c d
  show Calls Tryz.prog 30 #[.int .u8 (c.toNat : Int)] w _
  unfold quotedB strV
  by_cases h1 : c.toNat = 34 ∨ c.toNat = 92
  · have e : (c == 34 || c == 92) = true := by rw [e1, e1]; simpa using h1
    rw [if_pos e, ← e0]
    simpa using byteAs_mark c.toNat hc w h1
  · have e : ¬ (c == 34 || c == 92) = true := by rw [e1, e1]; simpa using h1
    rw [if_neg e]
    by_cases h2 : c.toNat = 10
    · have e' : (c == 10) = true := by rw [e1]; simpa using h2
      rw [if_pos e', h2]
      exact byteAs_nl w
    · have e' : ¬ (c == 10) = true := by rw [e1]; simpa using h2
      rw [if_neg e']
      by_cases h3 : c.toNat < 32 ∨ 126 < c.toNat
      · have e2 : (decide (c < 32) || decide (126 < c)) = true := by simp [UInt8.lt_iff_toNat_lt]; omega
        rw [if_pos (by simpa using e2)]
        exact byteAs_hex c.toNat hc w h3 h2
      · have e2 : ¬ (c < 32 || 126 < c) = true := by simp [UInt8.lt_iff_toNat_lt]; omega
        rw [if_neg (by simpa using e2)]
        have := byteAs_bare c.toNat hc w (fun h => h1 (.inl h)) (fun h => h1 (.inr h)) (by omega) (by omega)
        rwa [e0] at this
theorem quotesB_take {s : Str} {k : Nat} (h : k < s.length) : quotesB (s.take (k + 1)) = quotesB (s.take k) ++ quotedB s[k] := by
  rw [take_at h]
  simp only [quotesB, List.flatMap_append, List.flatMap_cons, List.flatMap_nil, List.append_nil]
set_option maxRecDepth 100000 in
set_option maxHeartbeats 4000000 in
theorem rquote_any (s : Str) (w : World) (hs : s.length ≤ 17592186044416) : Calls Tryz.prog 17 #[strV s] w fun e w' => e = .returned (strV (quoteS s)) ∧ Below w.heap.size w w' := by
  have hsz : (⟨s.toArray⟩ : ByteArray).size = s.length := strLn s
  unfold strV
  go_enter Tryz.func17, Tryz.ntmps17
  go_wp2_with fail
  go_loopw [3, 4] (fun o i wr => ∃ k : Nat, k ≤ s.length ∧ i = .int .i64 k ∧ o = .string ⟨(quotesB (s.take k)).toArray⟩ ∧ Below w.heap.size w wr) (fun _ i _ => s.length - (intOf i).toNat)
  case atStart => exact ⟨0, Nat.zero_le _, rfl, rfl, Below.refl _ _⟩
  case round =>
    obtain ⟨k, hk, rfl, rfl, hb⟩ := hrel
    have hql := quotes_len (s.take k)
    have htl : (s.take k).length = k := by rw [List.length_take]; omega
    by_cases hlt : k < s.length
    · have hstep := quotesB_take hlt
      have hidx := index_strB s k hlt
      have hqa := byteAs_any s[k]
      have hq1 := quoted_len s[k]
      obtain ⟨c, hc⟩ : ∃ c, c = s[k] := ⟨_, rfl⟩
      obtain ⟨q, hq⟩ : ∃ q, q = quotedB s[k] := ⟨_, rfl⟩
      obtain ⟨p, hp⟩ : ∃ p, p = quotesB (s.take k) := ⟨_, rfl⟩
      rw [← hq, ← hp] at hstep
      rw [← hq] at hqa hq1
      rw [← hc] at hqa hidx
      rw [← hp]
      have hpl : p.length ≤ 4 * k := by rw [hp]; omega
      unfold strV at hqa
      clear hc hq hp hql htl
      have hcat := cat_strR p q
      have hz1 : (⟨p.toArray⟩ : ByteArray).size = p.length := strLn p
      have hz2 : (⟨q.toArray⟩ : ByteArray).size = q.length := strLn q
      replace hcat := Lib.hid hcat
      replace hstep := Lib.hid hstep
      replace hqa := Lib.hid hqa
      replace hb := Lib.hid hb
      have hsz := hb.out.size
      go_wp2_with fail
      refine (hqa.out wr).mono ?_
      rintro e w3 ⟨rfl, hb3⟩
      have hb3' := hb.out.trans (hb3.mono hb.out.size)
      clear hb3
      go_wp2_with fail
      go_roundw
      case rel => exact ⟨k + 1, by omega, by go_num, by rw [hstep.out, ← hcat.out], hb3'⟩
      case measure => simp [intOf]; omega
    · obtain rfl : k = s.length := by omega
      rw [List.take_length] at hql ⊢
      have hqs : Hid ((⟨#[34]⟩ : ByteArray) ++ ⟨(quotesB s).toArray⟩ ++ ⟨#[34]⟩ = ⟨(quoteS s).toArray⟩) := Lib.hid (by
        rw [show (⟨#[34]⟩ : ByteArray) = ⟨([34] : Str).toArray⟩ from rfl, cat_strR, cat_strR]
        rfl)
      obtain ⟨q, hq⟩ : ∃ q, q = quotesB s := ⟨_, rfl⟩
      rw [← hq] at hql hqs ⊢
      have hz1 : (⟨q.toArray⟩ : ByteArray).size = q.length := strLn q
      clear hq htl hlt
      replace hb := Lib.hid hb
      go_wp2_with fail
      go_returns
      exact ⟨by rw [← hqs.out]; rfl, hb.out⟩
/-! The piece at the beginning. -/
theorem pieceN_none {u : Str} {m : Nat} (h : ∀ j : Nat, j < 256 → quotedB (byteN j) ≠ u.take m ∨ u.length < m) : pieceN u m = none := by
  unfold pieceN
  rw [List.findSome?_eq_none_iff]
  intro x hx
  rw [if_neg]
  rintro ⟨h1, h2⟩
  rcases h x (List.mem_range.1 hx) with h3 | h3
  · exact h3 h1
  · omega
theorem pieceP_found {u : Str} {m : Nat} {c : UInt8} (h : quotedB c = u.take m) (hm : m ≤ u.length) : pieceP u = some (c, m) := by
  have h1 : u = quotedB c ++ u.drop m := by rw [h, List.take_append_drop]
  have h2 : (quotedB c).length = m := by rw [h, List.length_take]; omega
  have h3 := pieceP_quoted c (u.drop m)
  rw [← h1, h2] at h3
  exact h3
theorem pieceP_none {u : Str} (h : ∀ j, 1 ≤ j → j < 5 → pieceN u j = none) : pieceP u = none := by
  unfold pieceP
  rw [List.findSome?_eq_none_iff]
  intro x hx
  simp only [List.mem_cons, List.not_mem_nil, or_false] at hx
  rw [h x (by omega) (by omega)]
  rfl
def PieceTo (u : Str) (w : World) (e : Ending) (w' : World) : Prop := e = .returned (match pieceP u with | some (c, n) => .tuple #[.int .u8 (bv c), .int .i64 (n : Int)] | none => .tuple #[.int .u8 0, .int .i64 0]) ∧ Below w.heap.size w w'
set_option maxRecDepth 100000 in
set_option maxHeartbeats 16000000 in
theorem piece_any (s : Str) (k : Nat) (hk : k ≤ s.length) (w : World) (hs : s.length ≤ 17592186044416) : Calls Tryz.prog 32 #[strV s, .int .i64 (k : Int)] w (PieceTo (s.drop k) w) := by
  have hsz : (⟨s.toArray⟩ : ByteArray).size = s.length := strLn s
  have hul : (s.drop k).length = s.length - k := List.length_drop
  have hmid : ∀ m, k + m ≤ s.length → (s.take (k + m)).drop k = (s.drop k).take m := fun m _ => by rw [List.drop_take]; congr 1; omega
  obtain ⟨u, hu⟩ : ∃ u, u = s.drop k := ⟨_, rfl⟩
  rw [← hu] at hul hmid ⊢
  clear hu
  replace hul := Lib.hid hul
  replace hmid := Lib.hid hmid
  unfold strV
  go_enter Tryz.func32, Tryz.ntmps32
  go_wp2_with fail
  go_loopw [6] (fun i wr => ∃ m : Nat, 1 ≤ m ∧ m ≤ 5 ∧ i = .int .i64 m ∧ (∀ j, 1 ≤ j → j < m → pieceN u j = none) ∧ Below w.heap.size w wr) (fun i _ => 5 - (intOf i).toNat)
  case atStart => exact ⟨1, by omega, by omega, rfl, fun j h1 h2 => by omega, Below.refl _ _⟩
  case round =>
    obtain ⟨m, hm1, hm5, rfl, hnone, hb⟩ := hrel
    have hend : Hid (4 < m ∨ s.length < k + m → PieceTo u w (.returned (.tuple #[.int .u8 0, .int .i64 0])) wr) := Lib.hid (fun h => ⟨by
      rw [pieceP_none (fun j h1 h2 => by
        rcases Nat.lt_or_ge j m with h3 | h3
        · exact hnone j h1 h3
        · exact pieceN_none (fun _ _ => .inr (by rw [hul.out]; omega)))], hb⟩)
    by_cases h4 : m ≤ 4
    · have d1 : decide ((m : Int) ≤ 4) = true := by simp; omega
      by_cases hlt : k + m ≤ s.length
      · have d2 : decide ((k : Int) + (m : Int) ≤ (s.length : Int)) = true := by simp; omega
        have hms := fun W => run_str_mid W s k (k + m) (by omega) hlt
        rw [hmid.out m hlt, Int.natCast_add] at hms
        obtain ⟨v, hv⟩ : ∃ v, v = u.take m := ⟨_, rfl⟩
        rw [← hv] at hms
        have hum : m ≤ u.length := by rw [hul.out]; omega
        have hnew : Hid ((∀ j : Nat, j < 256 → quotedB (byteN j) ≠ v) → ∀ j, 1 ≤ j → j < m + 1 → pieceN u j = none) := Lib.hid (fun h j h1 h2 => by
          rcases Nat.lt_or_ge j m with h3 | h3
          · exact hnone j h1 h3
          · obtain rfl : j = m := by omega
            exact pieceN_none (fun x hx => .inl (by rw [← hv]; exact h x hx)))
        have hfnd : Hid (∀ c, quotedB c = v → pieceP u = some (c, m)) := Lib.hid (fun c h => pieceP_found (by rw [h, hv]) hum)
        replace hv := Lib.hid hv
        clear hend hnone hlt
        replace hb := Lib.hid hb
        replace hum := Lib.hid hum
        go_wp2_with fail
        obtain ⟨wo, rfl⟩ : ∃ wo : World, wo = wr := ⟨_, rfl⟩
        go_loopw [7] (fun i wx => ∃ q : Nat, q ≤ 256 ∧ i = .int .i64 q ∧ (∀ j, j < q → quotedB (byteN j) ≠ v) ∧ Below w.heap.size w wx) (fun i _ => 256 - (intOf i).toNat)
        case atStart => exact ⟨0, by omega, rfl, fun j h => by omega, hb.out⟩
        case round =>
          obtain ⟨q, hq, rfl, hno, hb2⟩ := hrel
          by_cases hlq : q < 256
          · have hba := byteAs_any (byteN q)
            have hbn : bv (byteN q) = (q : Int) := bcast q hlq
            obtain ⟨c, hc⟩ : ∃ c, c = byteN q := ⟨_, rfl⟩
            obtain ⟨z, hz⟩ : ∃ z, z = quotedB (byteN q) := ⟨_, rfl⟩
            rw [← hz] at hba
            rw [show B (byteN q) = .int .u8 (q : Int) from by rw [B, hbn]] at hba
            unfold strV at hba
            have d3 : decide ((q : Int) < 256) = true := by simp; omega
            have hw8 : IntKind.u8.wrap (q : Int) = q := IntWalk.u8_in _ (by omega)
            have e1 : IntKind.i64.wrap ((k : Int) + (m : Int)) = (k : Int) + (m : Int) := IntWalk.i64_in _ (by omega)
            haveI := over_nonempty wr
            by_cases hzv : z = v
            · have hf := hfnd.out (byteN q) (by rw [← hz]; exact hzv)
              have hres : Hid (∀ w', Below wr.heap.size wr w' → PieceTo u w (.returned (.tuple #[.int .u8 (q : Int), .int .i64 (m : Int)])) w') := Lib.hid (fun w' hb' => ⟨by rw [hf, ← hbn], hb2.trans (hb'.mono hb2.size)⟩)
              subst hzv
              clear hno hz hc hf hbn hb2
              replace hba := Lib.hid hba
              go_wp2_with fail
              refine quiet_over (by kernel_rfl) (by kernel_rfl) ?_
              repeat (first | go_big_quiet_step (first | (go_at_call 30; exact calls_over _ (hba.out _))))
              refine wpQuiet_nil ?_
              rintro _ ⟨s7, rfl⟩
              go_wp2_with fail
              go_ret2
              exact hres.out _ s7.2
            · have hno2 : Hid (∀ j, j < q + 1 → quotedB (byteN j) ≠ v) := Lib.hid (fun j hj => by
                rcases Nat.lt_or_ge j q with h3 | h3
                · exact hno j h3
                · obtain rfl : j = q := by omega
                  rw [← hz]
                  exact hzv)
              have hne1 : (z == v) = false := by simpa using hzv
              have hsz2 := hb2.size
              replace hb2 := Lib.hid hb2
              clear hno hz hc hbn
              replace hba := Lib.hid hba
              go_wp2_with fail
              refine quiet_over (by kernel_rfl) (by kernel_rfl) ?_
              repeat (first | go_big_quiet_step (first | (go_at_call 30; exact calls_over _ (hba.out _))))
              refine wpQuiet_nil ?_
              rintro _ ⟨s7, rfl⟩
              have hb3 := Lib.hid (hb2.out.trans (s7.2.mono hsz2))
              go_wp2_with fail
              go_roundw
              case rel => exact ⟨q + 1, by omega, by go_num, hno2.out, hb3.out⟩
              case measure => simp [intOf]; omega
          · obtain rfl : q = 256 := by omega
            have hn2 := Lib.hid (hnew.out hno)
            clear hno
            replace hb2 := Lib.hid hb2
            go_wp2_with fail
            refine ⟨⟨m + 1, by omega, by omega, by go_num, hn2.out, hb2.out⟩, ?_⟩
            simp [intOf]
            omega
      · have d2 : decide ((k : Int) + (m : Int) ≤ (s.length : Int)) = false := by simp; omega
        have hr := Lib.hid (hend.out (.inr (by omega)))
        clear hend hnone hlt
        go_wp2_with fail
        go_ret2
        exact hr.out
    · have d1 : decide ((m : Int) ≤ 4) = false := by simp; omega
      have hr := Lib.hid (hend.out (.inl (by omega)))
      clear hend hnone
      go_wp2_with fail
      go_ret2
      exact hr.out
end Go.Proofs.YtamdhaoglapnnaaGreatDoor
