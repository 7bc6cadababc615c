/- The reference's quoted texts at a place; its words of a line. -/
import Derived.Test.YtamdhaoglapnnaaGreatDoorCQtR
namespace Go.Proofs.YtamdhaoglapnnaaGreatDoor
open Go.RowKit

def ScanRAt (s : Str) (k0 k : Nat) (p : Str) : Prop := scanR (s.drop (k0 + 1)) = (scanR (s.drop k)).map fun q => (p ++ q.1, (k - (k0 + 1)) + q.2)
theorem ScanRAt.start (s : Str) (k0 : Nat) : ScanRAt s k0 (k0 + 1) [] := by
  unfold ScanRAt
  cases scanR (s.drop (k0 + 1)) <;> simp
theorem scanR_next {s : Str} {c : UInt8} {n : Nat} (hne : s ≠ []) (h34 : s.head? ≠ some 34) (ho : pieceP s = some (c, n)) : scanR s = (scanR (s.drop n)).map fun p => (c :: p.1, n + p.2) := by
  conv => lhs; rw [scanR]
  rw [dif_neg hne, if_neg h34]
  split
  · rename_i h
    rw [ho] at h
    cases h
  · rename_i d m h
    rw [ho] at h
    cases h
    rfl
theorem ScanRAt.next {s p : Str} {k0 k n : Nat} {c : UInt8} (h : ScanRAt s k0 k p) (hk : k0 < k) (hlt : k < s.length) (h34 : s[k] ≠ 34) (ho : pieceP (s.drop k) = some (c, n)) : ScanRAt s k0 (k + n) (p ++ [c]) := by
  unfold ScanRAt at h ⊢
  rw [h, scanR_next (drop_ne hlt) (by rw [head_drop hlt]; simpa using h34) ho, List.drop_drop]
  cases scanR (s.drop (k + n)) with
  | none => rfl
  | some q =>
    simp
    omega
theorem ScanRAt.stop {s p : Str} {k0 k : Nat} (h : ScanRAt s k0 k p) (hk : k0 < k) (hlt : k < s.length) (h34 : s[k] = 34) : scanR (s.drop (k0 + 1)) = some (p, k - k0) := by
  unfold ScanRAt at h
  have h1 : scanR (s.drop k) = some ([], 1) := by
    rw [scanR, dif_neg (drop_ne hlt), if_pos (by rw [head_drop hlt, h34])]
  rw [h, h1]
  simp
  omega
theorem ScanRAt.bad {s p : Str} {k0 k : Nat} (h : ScanRAt s k0 k p) (hlt : k < s.length) (h34 : s[k] ≠ 34) (ho : pieceP (s.drop k) = none) : scanR (s.drop (k0 + 1)) = none := by
  unfold ScanRAt at h
  have h1 : scanR (s.drop k) = none := by
    rw [scanR, dif_neg (drop_ne hlt), if_neg (by rw [head_drop hlt]; simpa using h34)]
    split
    · rfl
    · rename_i h2
      rw [ho] at h2
      cases h2
  rw [h, h1]
  rfl
theorem ScanRAt.over {s p : Str} {k0 k : Nat} (h : ScanRAt s k0 k p) (hk : k = s.length) : scanR (s.drop (k0 + 1)) = none := by
  unfold ScanRAt at h
  rw [h, hk, List.drop_length, scanR]
  simp
theorem openQ_drop {s : Str} {k0 : Nat} (hlt : k0 < s.length) (h34 : s[k0] = 34) : openQ (s.drop k0) = (scanR (s.drop (k0 + 1))).map fun p => (p.1, p.2 + 1) := by
  unfold openQ
  rw [if_pos (by rw [head_drop hlt, h34]), List.drop_drop]
/-- What the reference's scan at a place answers. -/
def RQTo (s : Str) (k0 : Nat) (w : World) (e : Ending) (w' : World) : Prop := (∃ (t : Str) (n : Nat) (ok : Bool), e = .returned (.tuple #[strV t, .int .i64 (n : Int), .bool ok]) ∧ (match openQ (s.drop k0) with | some (t', n') => t = t' ∧ n = k0 + n' ∧ ok = true | none => ok = false)) ∧ Below w.heap.size w w'
theorem RQTo.none {s t : Str} {k0 n : Nat} {w w' : World} (h : openQ (s.drop k0) = none) (hb : Below w.heap.size w w') : RQTo s k0 w (.returned (.tuple #[.string ⟨t.toArray⟩, .int .i64 (n : Int), .bool false])) w' := ⟨⟨t, n, false, rfl, by rw [h]⟩, hb⟩
theorem pieceTo_cases {u : Str} {w : World} {e : Ending} {w' : World} (h : PieceTo u w e w') : Below w.heap.size w w' ∧ ((pieceP u = none ∧ e = .returned (.tuple #[.int .u8 0, .int .i64 0])) ∨ ∃ c n, pieceP u = some (c, n) ∧ e = .returned (.tuple #[.int .u8 (bv c), .int .i64 (n : Int)])) := by
  obtain ⟨h1, h2⟩ := h
  refine ⟨h2, ?_⟩
  cases ho : pieceP u with
  | none => rw [ho] at h1; exact .inl ⟨rfl, h1⟩
  | some q => rw [ho] at h1; obtain ⟨c, n⟩ := q; exact .inr ⟨c, n, rfl, h1⟩
theorem pieceP_len {s : Str} {c : UInt8} {n : Nat} (h : pieceP s = some (c, n)) : 1 ≤ n ∧ n ≤ 4 ∧ n ≤ s.length := by
  obtain ⟨h1, h2⟩ := pieceP_some h
  have h3 := quoted_len c
  have h4 := congrArg List.length h1
  rw [List.length_append] at h4
  omega
set_option maxRecDepth 100000 in
set_option maxHeartbeats 16000000 in
theorem rquoted_any (s : Str) (k0 : Nat) (hk0 : k0 ≤ s.length) (w : World) (hs : s.length ≤ 4294967296) : Calls Tryz.prog 20 #[strV s, .int .i64 (k0 : Int)] w (RQTo s k0 w) := by
  have hsz : (⟨s.toArray⟩ : ByteArray).size = s.length := strLn s
  unfold strV
  by_cases hlt0 : k0 < s.length
  · have hi0 := index_strB s k0 hlt0
    by_cases h34 : s[k0] = 34
    · have hop := Lib.hid (openQ_drop hlt0 h34)
      have hbv : bv 34 = 34 := rfl
      rw [h34, hbv] at hi0
      have hd00 : decide (s.length ≤ k0) = false := by simp; omega
      clear h34 hbv
      go_enter Tryz.func20, Tryz.ntmps20
      go_wp2_with fail
      clear hi0 hd00
      go_loopw [1, 7] (fun i o wr => ∃ (k : Nat) (p : Str), k0 < k ∧ k ≤ s.length ∧ p.length ≤ k ∧ i = .int .i64 k ∧ o = .string ⟨p.toArray⟩ ∧ ScanRAt s k0 k p ∧ Below w.heap.size w wr) (fun i _ _ => s.length - (intOf i).toNat)
      case atStart => exact ⟨k0 + 1, [], by omega, by omega, by simp, by go_num, rfl, ScanRAt.start s k0, Below.refl _ _⟩
      case round =>
        obtain ⟨k, p, hk1, hk, hp, rfl, rfl, hsc, hb⟩ := hrel
        have hsz2 := hb.size
        by_cases hlt : k < s.length
        · have hidx := index_strB s k hlt
          by_cases hq : s[k] = 34
          · have hst := hsc.stop hk1 hlt hq
            have hbv : bv 34 = 34 := rfl
            rw [hq, hbv] at hidx
            have hres : Hid (RQTo s k0 w (.returned (.tuple #[.string ⟨p.toArray⟩, .int .i64 ((k : Int) + 1), .bool true])) wr) := Lib.hid ⟨⟨p, k + 1, true, rfl, by rw [hop.out, hst]; exact ⟨rfl, by simp only []; omega, rfl⟩⟩, hb⟩
            have d1 : decide ((k : Int) < (s.length : Int)) = true := by simp; omega
            clear hsc hst hb hq hbv
            go_wp2_with fail
            refine bodyPost_ret (v := .tuple #[.string ⟨p.toArray⟩, .int .i64 ((k : Int) + 1), .bool true]) (by simp [results, Tryz.results20, go_sem]) rfl hres.out
          · have hbx : (bv s[k] != 34) = true := by
              have h1 : s[k].toNat ≠ 34 := fun e => hq (UInt8.toNat_inj.1 e)
              unfold bv
              simp
              omega
            have hone := piece_any s k hk wr (by omega)
            have hbad := Lib.hid (hsc.bad hlt hq)
            have hnxt := Lib.hid (fun c n => hsc.next (c := c) (n := n) hk1 hlt hq)
            clear hsc hq
            generalize bv s[k] = x at hidx hbx
            have hdl : (s.drop k).length = s.length - k := List.length_drop
            obtain ⟨u, hu⟩ : ∃ u, u = s.drop k := ⟨_, rfl⟩
            rw [← hu] at hone hbad hnxt hdl
            clear hu
            unfold strV at hone
            replace hone := Lib.hid hone
            replace hb := Lib.hid hb
            replace hdl := Lib.hid hdl
            go_wp2_with fail
            refine hone.out.mono ?_
            rintro e w1 h1
            obtain ⟨hb1, ⟨ho, rfl⟩ | ⟨c, n, ho, rfl⟩⟩ := pieceTo_cases h1
            · have hr := Lib.hid (RQTo.none (s := s) (t := []) (k0 := k0) (n := 0) (w := w) (w' := w1) (by rw [hop.out, hbad.out ho]; rfl) (hb.out.trans (hb1.mono hsz2)))
              clear hone h1 ho hnxt hb1
              go_wp2_with fail
              refine bodyPost_ret (v := .tuple #[.string ⟨#[]⟩, .int .i64 0, .bool false]) (by simp [results, Tryz.results20, go_sem]) rfl hr.out
            · obtain ⟨hl1, hl2, hl3⟩ := pieceP_len ho
              rw [hdl.out] at hl3
              have hnx := Lib.hid (hnxt.out c n ho)
              have hn0 : ((n : Int) == 0) = false := by simp; omega
              have hs3 := hb1.size
              have hrd : Hid (Rd (w1.alloc (.cells #[.int .u8 (bv c)] 5)) (fun _ => True) (some ⟨w1.heap.size, 0, none⟩) (([c] : Str).map B)) := Lib.hid (Rd.of_blk (cs := [.int .u8 (bv c)]) (r := []) (Blk.new_at rfl) rfl trivial)
              have hbf : Hid (Below w.heap.size w (w1.alloc (.cells #[.int .u8 (bv c)] 5))) := Lib.hid ((hb.out.trans (hb1.mono hsz2)).alloc (by omega) _)
              have hcat := Lib.hid (cat_strR p [c])
              have hz1 : (⟨p.toArray⟩ : ByteArray).size = p.length := strLn p
              have hz2 : (⟨#[c]⟩ : ByteArray).size = 1 := rfl
              clear hone h1 ho hnxt hbad hb1
              go_wp2_with (first | (refine wpList_to_string rfl 49 9 (.tmp 42) rfl 5 Tryz.underlying49 Tryz.underlying5 Tryz.underlying9 (some ⟨w1.heap.size, 0, none⟩) _ 1 rfl hrd.out ?_; go_frame) | fail)
              go_roundw
              case rel => exact ⟨k + n, p ++ [c], by omega, by omega, by simp; omega, by go_num, by rw [← hcat.out], hnx.out, hbf.out⟩
              case measure => simp [intOf]; omega
        · have hres : Hid (RQTo s k0 w (.returned (.tuple #[.string ⟨p.toArray⟩, .int .i64 ((k : Int) + 1), .bool false])) wr) := Lib.hid (RQTo.none (t := p) (n := k + 1) (by rw [hop.out, hsc.over (by omega)]; rfl) hb)
          have d1 : decide ((k : Int) < (s.length : Int)) = false := by simp; omega
          clear hsc hb
          go_wp2_with fail
          refine bodyPost_ret (v := .tuple #[.string ⟨p.toArray⟩, .int .i64 ((k : Int) + 1), .bool false]) (by simp [results, Tryz.results20, go_sem]) rfl hres.out
    · have hbv : (bv s[k0] != 34) = true := by
        have : s[k0].toNat ≠ 34 := fun e => h34 (UInt8.toNat_inj.1 e)
        unfold bv
        simp
        omega
      have hr := Lib.hid (RQTo.none (s := s) (t := []) (k0 := k0) (n := 0) (w := w) (w' := w) (by unfold openQ; rw [head_drop hlt0, if_neg (by simpa using h34)]) (Below.refl _ _))
      generalize bv s[k0] = x at hi0 hbv
      go_enter Tryz.func20, Tryz.ntmps20
      go_wp2_with fail
      refine bodyPost_ret (v := .tuple #[.string ⟨#[]⟩, .int .i64 0, .bool false]) (by simp [results, Tryz.results20, go_sem]) rfl hr.out
  · have hr := Lib.hid (RQTo.none (s := s) (t := []) (k0 := k0) (n := 0) (w := w) (w' := w) (by rw [List.drop_eq_nil_of_le (by omega)]; rfl) (Below.refl _ _))
    go_enter Tryz.func20, Tryz.ntmps20
    go_wp2_with fail
    refine bodyPost_ret (v := .tuple #[.string ⟨#[]⟩, .int .i64 0, .bool false]) (by simp [results, Tryz.results20, go_sem]) rfl hr.out
set_option maxRecDepth 100000 in
set_option maxHeartbeats 8000000 in
theorem runquote_any (s : Str) (w : World) (hs : s.length ≤ 4294967296) : Calls Tryz.prog 16 #[strV s] w (UnTo s w) := by
  have hsz : (⟨s.toArray⟩ : ByteArray).size = s.length := strLn s
  have hop := rquoted_any s 0 (by omega) w hs
  unfold strV at hop ⊢
  have hun : unquoteS s = match openQ s with | some (t, n) => if n = s.length then some t else none | none => none := rfl
  replace hun := Lib.hid hun
  simp only [Int.natCast_zero] at hop
  go_enter Tryz.func16, Tryz.ntmps16
  go_wp2_with fail
  refine hop.mono ?_
  rintro e w1 ⟨⟨t, n, ok, rfl, ho⟩, hb⟩
  rw [List.drop_zero] at ho
  unfold strV
  cases hq : openQ s with
  | none =>
    rw [hq] at ho
    obtain rfl : ok = false := ho
    have hr : Hid (UnTo s w (.returned (.tuple #[.string ⟨#[]⟩, .bool false])) w1) := Lib.hid ⟨by rw [hun.out, hq], hb⟩
    clear hop hun hq hb
    go_wp2_with fail
    go_ret2
    exact hr.out
  | some q =>
    obtain ⟨t', n'⟩ := q
    rw [hq] at ho
    obtain ⟨rfl, hnn, rfl⟩ := ho
    obtain rfl : n = n' := by omega
    by_cases hn : n = s.length
    · have hr : Hid (UnTo s w (.returned (.tuple #[.string ⟨t.toArray⟩, .bool true])) w1) := Lib.hid ⟨by rw [hun.out, hq]; simp only [if_pos hn]; rfl, hb⟩
      have hd : ((n : Int) != (s.length : Int)) = false := by simp; omega
      clear hop hun hq hb hn hnn
      go_wp2_with fail
      go_ret2
      exact hr.out
    · have hr : Hid (UnTo s w (.returned (.tuple #[.string ⟨#[]⟩, .bool false])) w1) := Lib.hid ⟨by rw [hun.out, hq]; simp only [if_neg hn], hb⟩
      have hd : ((n : Int) != (s.length : Int)) = true := by simp; omega
      clear hop hun hq hb hn hnn
      go_wp2_with fail
      go_ret2
      exact hr.out
end Go.Proofs.YtamdhaoglapnnaaGreatDoor
