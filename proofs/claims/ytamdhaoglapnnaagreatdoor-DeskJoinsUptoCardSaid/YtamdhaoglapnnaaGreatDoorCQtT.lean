/- The reference's words of a line. -/
import Derived.Test.YtamdhaoglapnnaaGreatDoorCQtS
namespace Go.Proofs.YtamdhaoglapnnaaGreatDoor
open Go.RowKit

/-- How far a bare word at place k goes. -/
def BareFrom (s : Str) (k j : Nat) : Prop := bareN (s.drop k) = (j - k) + bareN (s.drop j)
theorem BareFrom.start (s : Str) (k : Nat) : BareFrom s k k := by simp [BareFrom]
theorem BareFrom.next {s : Str} {k j : Nat} (h : BareFrom s k j) (hk : k ≤ j) (hlt : j < s.length) (hb : bareB s[j] = true) : BareFrom s k (j + 1) := by
  unfold BareFrom at h ⊢
  rw [h, bare_step hlt, if_pos hb]
  omega
theorem BareFrom.stop {s : Str} {k j : Nat} (h : BareFrom s k j) (hlt : j < s.length) (hb : bareB s[j] = false) : bareN (s.drop k) = j - k := by
  unfold BareFrom at h
  rw [h, bare_step hlt, if_neg (by simp [hb])]
  rfl
theorem BareFrom.over {s : Str} {k j : Nat} (h : BareFrom s k j) (hj : j = s.length) : bareN (s.drop k) = j - k := by
  unfold BareFrom at h
  rw [h, hj, List.drop_length]
  rfl
theorem bareB_cases2 (c : UInt8) : (bareB c = true ∧ decide (32 < bv c) = true ∧ decide (bv c ≤ 126) = true ∧ (bv c != 34) = true) ∨ (bareB c = false ∧ (decide (32 < bv c) = false ∨ (decide (32 < bv c) = true ∧ (decide (bv c ≤ 126) = false ∨ (decide (bv c ≤ 126) = true ∧ (bv c != 34) = false))))) := by
  rcases bareB_cases c with ⟨h, h1, h2, h3⟩ | ⟨h, h'⟩
  · left
    generalize bv c = x at h1 h2 h3
    simp at h1 h2 h3
    refine ⟨h, ?_, ?_, ?_⟩ <;> simp <;> omega
  · right
    refine ⟨h, ?_⟩
    generalize bv c = x at h'
    by_cases g1 : 32 < x
    · right
      refine ⟨by simpa using g1, ?_⟩
      by_cases g2 : x ≤ 126
      · right
        refine ⟨by simpa using g2, ?_⟩
        simp at h' ⊢
        omega
      · left
        simpa using g2
    · left
      simpa using g1
structure BehindE (s : Str) (k : Nat) (l : List Wrd) (p : Wrd) (e : Nat) : Prop where
  gt : k < e
  le : e ≤ s.length
  last : e = s.length → wordsS s = some (l ++ [p])
  bad : ∀ h : e < s.length, s[e] ≠ 32 → wordsS s = none
  next : ∀ h : e < s.length, s[e] = 32 → WordsAt s (e + 1) (l ++ [p])
theorem Behind.at {s : Str} {k n e : Nat} {l : List Wrd} {p : Wrd} (h : Behind s k l p n) (he : e = k + n) : BehindE s k l p e := by
  subst he
  exact ⟨by have := h.pos; omega, h.le, h.last, h.bad, h.next⟩
set_option maxRecDepth 100000 in
set_option maxHeartbeats 16000000 in
theorem rwords_any (s : Str) (w : World) (hs : s.length ≤ 4294967296) : Calls Tryz.prog 9 #[strV s] w (WordsTo s w) := by
  have hsz : (⟨s.toArray⟩ : ByteArray).size = s.length := strLn s
  unfold strV
  go_enter Tryz.func9, Tryz.ntmps9
  go_wp2_with fail
  go_loopw [4, 5] (fun v i wr => ∃ (k : Nat) (l : List Wrd) (A : Option Addr) (cp : Nat), k ≤ s.length ∧ l.length ≤ k ∧ i = .int .i64 k ∧ v = .slice A l.length cp ∧ wr.ownsRow w.heap.size 29 2 (.slice A l.length cp) l.length (wCells l) ∧ WordsAt s k l ∧ Below w.heap.size w wr) (fun _ i _ => s.length + 1 - (intOf i).toNat)
  case atStart => exact ⟨0, [], none, 0, by omega, by simp, rfl, rfl, ⟨rfl, .inl ⟨rfl, rfl⟩⟩, WordsAt.start s, Below.refl _ _⟩
  case round =>
    obtain ⟨k, l, A, cp, hk, hl, rfl, rfl, hown, hwa, hb⟩ := hrel
    have hsz2 := hb.size
    have hop := rquoted_any s k hk wr hs
    have hbeh := Lib.hid (fun p n => hwa.behind (p := p) (n := n) hk)
    have hwn := Lib.hid (fun h => hwa.none h)
    have hwd : wordAt (s.drop k) = match openQ (s.drop k) with | some (t, n) => some ((true, t), n) | none => if 0 < bareN (s.drop k) then some ((false, (s.drop k).take (bareN (s.drop k))), bareN (s.drop k)) else none := rfl
    replace hwd := Lib.hid hwd
    have hbl := bareN_le (s.drop k)
    rw [List.length_drop] at hbl
    replace hbl := Lib.hid hbl
    clear hwa
    unfold strV at hop
    replace hb := Lib.hid hb
    replace hown := Lib.hid hown
    go_wp2_with fail
    refine hop.mono ?_
    rintro e' w1 ⟨⟨t, e, ok, rfl, ho⟩, hb1⟩
    unfold strV
    have hb1' := Lib.hid (hb.out.trans (hb1.mono hsz2))
    have hown1 := own_later hown.out hb1
    have hs2 := hb1.size
    clear hop hown hb1 hb
    cases hq : openQ (s.drop k) with
    | some q =>
      obtain ⟨t', n'⟩ := q
      rw [hq] at ho
      obtain ⟨rfl, he, rfl⟩ := ho
      have hB := (hbeh.out _ _ (by rw [hwd.out, hq])).at he
      have hle := hB.le
      have hgt := hB.gt
      have hlast := hB.last
      have hbad := hB.bad
      have hnext := hB.next
      have hde : ((e : Int) == (k : Int)) = false := by simp; omega
      clear hbeh hwn hwd hbl hq hB he
      replace hlast := Lib.hid hlast
      replace hbad := Lib.hid hbad
      replace hnext := Lib.hid hnext
      by_cases hend : e = s.length
      · have hr := Lib.hid (hlast.out hend)
        have hd : ((e : Int) == (s.length : Int)) = true := by simp; omega
        clear hlast hbad hnext hend
        go_wp2_with (at_builtin; refine wpList_append_rd _ rfl (.tmp 50) (.tmp 54) 22 rfl w.heap.size 29 _ 2 24 Tryz.underlying22 infoWd (.slice A l.length cp) l.length (wCells l) rfl (hown1.alloc _) (fun _ => True) (some ⟨w1.heap.size, 0, none⟩) 1 1 [.bool true, .string ⟨t.toArray⟩] rfl rfl (Rd.of_blk (cs := [.bool true, .string ⟨t.toArray⟩]) (r := []) (Blk.new_at rfl) rfl trivial) (by simp [Value.oneCell']) (by unfold maxLen; omega) (by omega) (by simp; omega) ?_; intro v' w2 hown3 hg3 hv3; obtain ⟨A3, c3, rfl, _, _⟩ := own_form hown3; have hbf := Lib.hid ((hb1'.out.alloc (by omega) _).trans (own_below (hown1.alloc _) hg3 (by simp; omega))); replace hown3 := Lib.hid hown3; clear hg3 hv3 hown1; go_frame)
        have hres : Hid (WordsTo s w (.returned (.tuple #[.slice A3 (l.length + 1) c3, .bool true])) w2) := Lib.hid ⟨by rw [hr.out]; exact ⟨A3, c3, by simp, by rw [wCells_snoc, List.length_append, List.length_singleton]; exact hown3.out⟩, hbf.out⟩
        go_ret2
        exact hres.out
      · have hlt2 : e < s.length := by omega
        have hd : ((e : Int) == (s.length : Int)) = false := by simp; omega
        have hidx := index_strB s e hlt2
        by_cases hsp : s[e] = 32
        · have hn2 := Lib.hid (hnext.out hlt2 hsp)
          have hx : bv s[e] = 32 := by rw [hsp]; rfl
          rw [hx] at hidx
          clear hlast hbad hnext hend hsp hx
          go_wp2_with (at_builtin; refine wpList_append_rd _ rfl (.tmp 50) (.tmp 54) 22 rfl w.heap.size 29 _ 2 24 Tryz.underlying22 infoWd (.slice A l.length cp) l.length (wCells l) rfl (hown1.alloc _) (fun _ => True) (some ⟨w1.heap.size, 0, none⟩) 1 1 [.bool true, .string ⟨t.toArray⟩] rfl rfl (Rd.of_blk (cs := [.bool true, .string ⟨t.toArray⟩]) (r := []) (Blk.new_at rfl) rfl trivial) (by simp [Value.oneCell']) (by unfold maxLen; omega) (by omega) (by simp; omega) ?_; intro v' w2 hown3 hg3 hv3; obtain ⟨A3, c3, rfl, _, _⟩ := own_form hown3; have hbf := Lib.hid ((hb1'.out.alloc (by omega) _).trans (own_below (hown1.alloc _) hg3 (by simp; omega))); replace hown3 := Lib.hid hown3; clear hg3 hv3 hown1; go_frame)
          go_roundw
          case rel => exact ⟨e + 1, l ++ [(true, t)], A3, c3, by omega, by simp; omega, by go_num, by simp, by rw [wCells_snoc, List.length_append, List.length_singleton]; exact hown3.out, hn2.out, hbf.out⟩
          case measure => simp [intOf]; omega
        · have hn2 := Lib.hid (hbad.out hlt2 hsp)
          have hx : (bv s[e] != 32) = true := by
            have h1 : s[e].toNat ≠ 32 := fun e' => hsp (UInt8.toNat_inj.1 e')
            unfold bv
            simp
            omega
          generalize bv s[e] = x at hidx hx
          clear hlast hbad hnext hend hsp
          go_wp2_with (at_builtin; refine wpList_append_rd _ rfl (.tmp 50) (.tmp 54) 22 rfl w.heap.size 29 _ 2 24 Tryz.underlying22 infoWd (.slice A l.length cp) l.length (wCells l) rfl (hown1.alloc _) (fun _ => True) (some ⟨w1.heap.size, 0, none⟩) 1 1 [.bool true, .string ⟨t.toArray⟩] rfl rfl (Rd.of_blk (cs := [.bool true, .string ⟨t.toArray⟩]) (r := []) (Blk.new_at rfl) rfl trivial) (by simp [Value.oneCell']) (by unfold maxLen; omega) (by omega) (by simp; omega) ?_; intro v' w2 hown3 hg3 hv3; obtain ⟨A3, c3, rfl, _, _⟩ := own_form hown3; have hbf := Lib.hid ((hb1'.out.alloc (by omega) _).trans (own_below (hown1.alloc _) hg3 (by simp; omega))); replace hown3 := Lib.hid hown3; clear hg3 hv3 hown1; go_frame)
          have hres : Hid (WordsTo s w (.returned (.tuple #[.slice none 0 0, .bool false])) w2) := Lib.hid ⟨by rw [hn2.out], hbf.out⟩
          go_ret2
          exact hres.out
    | none =>
      rw [hq] at ho
      obtain rfl : ok = false := ho
      rw [hq] at hwd
      clear hq
      have hko : Int.toNat (k : Int) = k := by simp
      go_wp2_with fail
      go_loop [7] (fun i => ∃ j : Nat, k ≤ j ∧ j ≤ s.length ∧ i = .int .i64 j ∧ BareFrom s k j) (fun i => s.length - (intOf i).toNat)
      case atStart => exact ⟨k, Nat.le_refl _, hk, rfl, BareFrom.start s k⟩
      case round =>
        obtain ⟨e, hj1, hj2, rfl, hbf⟩ := hrel
        by_cases hlt : e < s.length
        · have hidx := index_strB s e hlt
          rcases bareB_cases2 s[e] with ⟨hb, h1, h2, h3⟩ | ⟨hb, h⟩
          · have hn := Lib.hid (hbf.next hj1 hlt hb)
            clear hbf hb
            generalize bv s[e] = x at hidx h1 h2 h3
            go_wp2_with fail
            refine ⟨⟨e + 1, by omega, by omega, by go_num, hn.out⟩, ?_⟩
            simp [intOf]
            omega
          · have hb0 := hbf.stop hlt hb
            clear hbf hb
            generalize hgx : bv s[e] = x at hidx h
            replace hgx := Lib.hid hgx
            rcases h with h | ⟨h, h' | ⟨h', h''⟩⟩
            all_goals
              have hem : bareN (s.drop k) = e - k := hb0
              by_cases hpos0 : k < e
              · have hB := (hbeh.out (false, (s.drop k).take (e - k)) (e - k) (by rw [hwd.out]; (try simp only []); rw [hem, if_pos (by omega)])).at (e := e) (by omega)
                have hms := fun W => run_str_mid W s k e (by omega) hj2
                rw [show (s.take e).drop k = (s.drop k).take (e - k) from by rw [List.drop_take]] at hms
                obtain ⟨v, hv⟩ : ∃ v, v = (s.drop k).take (e - k) := ⟨_, rfl⟩
                rw [← hv] at hB hms
                have hle := hB.le
                have hgt := hB.gt
                have hlast := Lib.hid hB.last
                have hbad := Lib.hid hB.bad
                have hnext := Lib.hid hB.next
                have hde : ((e : Int) == (k : Int)) = false := by simp; omega
                clear hbeh hwn hwd hbl hB hem hb0 hv hpos0
                by_cases hend : e = s.length
                · have hr := Lib.hid (hlast.out hend)
                  have hd : ((e : Int) == (s.length : Int)) = true := by simp; omega
                  clear hlast hbad hnext hend
                  go_wp2_with (at_builtin; refine wpList_append_rd _ rfl (.tmp 50) (.tmp 54) 22 rfl w.heap.size 29 _ 2 24 Tryz.underlying22 infoWd (.slice A l.length cp) l.length (wCells l) rfl (hown1.alloc _) (fun _ => True) (some ⟨w1.heap.size, 0, none⟩) 1 1 [.bool false, .string ⟨v.toArray⟩] rfl rfl (Rd.of_blk (cs := [.bool false, .string ⟨v.toArray⟩]) (r := []) (Blk.new_at rfl) rfl trivial) (by simp [Value.oneCell']) (by unfold maxLen; omega) (by omega) (by simp; omega) ?_; intro v' w2 hown3 hg3 hv3; obtain ⟨A3, c3, rfl, _, _⟩ := own_form hown3; have hbf := Lib.hid ((hb1'.out.alloc (by omega) _).trans (own_below (hown1.alloc _) hg3 (by simp; omega))); replace hown3 := Lib.hid hown3; clear hg3 hv3 hown1; go_frame)
                  have hres : Hid (WordsTo s w (.returned (.tuple #[.slice A3 (l.length + 1) c3, .bool true])) w2) := Lib.hid ⟨by rw [hr.out]; exact ⟨A3, c3, by simp, by rw [wCells_snoc, List.length_append, List.length_singleton]; exact hown3.out⟩, hbf.out⟩
                  go_ret2
                  exact hres.out
                · have hlt2 : e < s.length := by omega
                  have hd : ((e : Int) == (s.length : Int)) = false := by simp; omega
                  by_cases hsp : s[e] = 32
                  · have hn2 := Lib.hid (hnext.out hlt2 hsp)
                    have hx : (x != 32) = false := by rw [← hgx.out, hsp]; rfl
                    clear hlast hbad hnext hend hsp hgx
                    go_wp2_with (at_builtin; refine wpList_append_rd _ rfl (.tmp 50) (.tmp 54) 22 rfl w.heap.size 29 _ 2 24 Tryz.underlying22 infoWd (.slice A l.length cp) l.length (wCells l) rfl (hown1.alloc _) (fun _ => True) (some ⟨w1.heap.size, 0, none⟩) 1 1 [.bool false, .string ⟨v.toArray⟩] rfl rfl (Rd.of_blk (cs := [.bool false, .string ⟨v.toArray⟩]) (r := []) (Blk.new_at rfl) rfl trivial) (by simp [Value.oneCell']) (by unfold maxLen; omega) (by omega) (by simp; omega) ?_; intro v' w2 hown3 hg3 hv3; obtain ⟨A3, c3, rfl, _, _⟩ := own_form hown3; have hbf := Lib.hid ((hb1'.out.alloc (by omega) _).trans (own_below (hown1.alloc _) hg3 (by simp; omega))); replace hown3 := Lib.hid hown3; clear hg3 hv3 hown1; go_frame)
                    refine ⟨⟨e + 1, l ++ [(false, v)], A3, c3, by omega, by simp; omega, by go_num, by simp, by rw [wCells_snoc, List.length_append, List.length_singleton]; exact hown3.out, hn2.out, hbf.out⟩, ?_⟩
                    simp [intOf]
                    omega
                  · have hn2 := Lib.hid (hbad.out hlt2 hsp)
                    have hx : (x != 32) = true := by
                      rw [← hgx.out]
                      have h1 : s[e].toNat ≠ 32 := fun e' => hsp (UInt8.toNat_inj.1 e')
                      unfold bv
                      simp
                      omega
                    clear hlast hbad hnext hend hsp hgx
                    go_wp2_with (at_builtin; refine wpList_append_rd _ rfl (.tmp 50) (.tmp 54) 22 rfl w.heap.size 29 _ 2 24 Tryz.underlying22 infoWd (.slice A l.length cp) l.length (wCells l) rfl (hown1.alloc _) (fun _ => True) (some ⟨w1.heap.size, 0, none⟩) 1 1 [.bool false, .string ⟨v.toArray⟩] rfl rfl (Rd.of_blk (cs := [.bool false, .string ⟨v.toArray⟩]) (r := []) (Blk.new_at rfl) rfl trivial) (by simp [Value.oneCell']) (by unfold maxLen; omega) (by omega) (by simp; omega) ?_; intro v' w2 hown3 hg3 hv3; obtain ⟨A3, c3, rfl, _, _⟩ := own_form hown3; have hbf := Lib.hid ((hb1'.out.alloc (by omega) _).trans (own_below (hown1.alloc _) hg3 (by simp; omega))); replace hown3 := Lib.hid hown3; clear hg3 hv3 hown1; go_frame)
                    have hres : Hid (WordsTo s w (.returned (.tuple #[.slice none 0 0, .bool false])) w2) := Lib.hid ⟨by rw [hn2.out], hbf.out⟩
                    go_ret2
                    exact hres.out
              · obtain rfl : e = k := by omega
                have hn2 := Lib.hid (hwn.out (by rw [hwd.out]; (try simp only []); rw [hem, if_neg (by omega)]))
                have hde : ((e : Int) == (e : Int)) = true := by simp
                have hms := fun W => run_str_mid W s e e (by omega) hj2
                have hres : Hid (WordsTo s w (.returned (.tuple #[.slice none 0 0, .bool false])) w1) := Lib.hid ⟨by rw [hn2.out], hb1'.out⟩
                clear hbeh hwn hwd hbl hem hb0
                go_wp2_with fail
                go_ret2
                exact hres.out
        · have hb0 := hbf.over (by omega)
          clear hbf
          have hem : bareN (s.drop k) = e - k := hb0
          by_cases hpos0 : k < e
          · have hB := (hbeh.out (false, (s.drop k).take (e - k)) (e - k) (by rw [hwd.out]; (try simp only []); rw [hem, if_pos (by omega)])).at (e := e) (by omega)
            have hms := fun W => run_str_mid W s k e (by omega) hj2
            rw [show (s.take e).drop k = (s.drop k).take (e - k) from by rw [List.drop_take]] at hms
            obtain ⟨v, hv⟩ : ∃ v, v = (s.drop k).take (e - k) := ⟨_, rfl⟩
            rw [← hv] at hB hms
            have hle := hB.le
            have hgt := hB.gt
            have hlast := Lib.hid hB.last
            have hbad := Lib.hid hB.bad
            have hnext := Lib.hid hB.next
            have hde : ((e : Int) == (k : Int)) = false := by simp; omega
            clear hbeh hwn hwd hbl hB hem hb0 hv hpos0
            by_cases hend : e = s.length
            · have hr := Lib.hid (hlast.out hend)
              have hd : ((e : Int) == (s.length : Int)) = true := by simp; omega
              clear hlast hbad hnext hend
              go_wp2_with (at_builtin; refine wpList_append_rd _ rfl (.tmp 50) (.tmp 54) 22 rfl w.heap.size 29 _ 2 24 Tryz.underlying22 infoWd (.slice A l.length cp) l.length (wCells l) rfl (hown1.alloc _) (fun _ => True) (some ⟨w1.heap.size, 0, none⟩) 1 1 [.bool false, .string ⟨v.toArray⟩] rfl rfl (Rd.of_blk (cs := [.bool false, .string ⟨v.toArray⟩]) (r := []) (Blk.new_at rfl) rfl trivial) (by simp [Value.oneCell']) (by unfold maxLen; omega) (by omega) (by simp; omega) ?_; intro v' w2 hown3 hg3 hv3; obtain ⟨A3, c3, rfl, _, _⟩ := own_form hown3; have hbf := Lib.hid ((hb1'.out.alloc (by omega) _).trans (own_below (hown1.alloc _) hg3 (by simp; omega))); replace hown3 := Lib.hid hown3; clear hg3 hv3 hown1; go_frame)
              have hres : Hid (WordsTo s w (.returned (.tuple #[.slice A3 (l.length + 1) c3, .bool true])) w2) := Lib.hid ⟨by rw [hr.out]; exact ⟨A3, c3, by simp, by rw [wCells_snoc, List.length_append, List.length_singleton]; exact hown3.out⟩, hbf.out⟩
              go_ret2
              exact hres.out
            · exact absurd (by omega) hend
          · obtain rfl : e = k := by omega
            have hn2 := Lib.hid (hwn.out (by rw [hwd.out]; (try simp only []); rw [hem, if_neg (by omega)]))
            have hde : ((e : Int) == (e : Int)) = true := by simp
            have hms := fun W => run_str_mid W s e e (by omega) hj2
            have hres : Hid (WordsTo s w (.returned (.tuple #[.slice none 0 0, .bool false])) w1) := Lib.hid ⟨by rw [hn2.out], hb1'.out⟩
            clear hbeh hwn hwd hbl hem hb0
            go_wp2_with fail
            go_ret2
            exact hres.out
end Go.Proofs.YtamdhaoglapnnaaGreatDoor
