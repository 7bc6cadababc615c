/- A quoted text is read; the words of a line. -/
import Derived.Test.YtamdhaoglapnnaaGreatDoorM11
import Derived.Test.YtamdhaoglapnnaaGreatDoorM07
import Derived.Test.YtamdhaoglapnnaaGreatDoorM41
import Derived.Test.YtamdhaoglapnnaaGreatDoorM03
section
namespace Go.Proofs.YtamdhaoglapnnaaGreatDoor
open Go.RowKit

/-- What Unquote answers. -/
def UnTo (s : Str) (w : World) (e : Ending) (w' : World) : Prop := e = .returned (match unquoteS s with | some t => .tuple #[strV t, .bool true] | none => .tuple #[.string ⟨#[]⟩, .bool false]) ∧ Below w.heap.size w w'
set_option maxRecDepth 100000 in
set_option maxHeartbeats 8000000 in
theorem unquote_any (s : Str) (w : World) (hs : s.length ≤ 17592186044416) (hE : ErrIn w) : Calls Tryz.prog 15 #[strV s] w (UnTo s w) := by
  have hsz : (⟨s.toArray⟩ : ByteArray).size = s.length := strLn s
  have hop := opened_any s w hs hE
  clear hE
  unfold strV at hop ⊢
  have hun : unquoteS s = match openQ s with | some (t, n) => if n = s.length then some t else none | none => none := rfl
  replace hun := Lib.hid hun
  go_enter Tryz.func15, Tryz.ntmps15
  go_wp2_with fail
  refine hop.mono ?_
  rintro e w1 ⟨⟨t, n, ok, rfl, ho⟩, hb⟩
  unfold strV
  cases hq : openQ s with
  | none =>
    rw [hq] at ho
    obtain rfl : ok = false := ho
    have hr : Hid (UnTo s w (.returned (.tuple #[.string ⟨#[]⟩, .bool false])) w1) := Lib.hid ⟨by rw [hun.out, hq], hb⟩
    clear hop hun hq hb
    go_wp2_with fail
    go_ret2
    exact hr.out
  | some q =>
    obtain ⟨t', n'⟩ := q
    rw [hq] at ho
    obtain ⟨rfl, rfl, rfl⟩ := ho
    by_cases hn : n = s.length
    · have hr : Hid (UnTo s w (.returned (.tuple #[.string ⟨t.toArray⟩, .bool true])) w1) := Lib.hid ⟨by rw [hun.out, hq]; simp only [if_pos hn]; rfl, hb⟩
      have hd : ((n : Int) != (s.length : Int)) = false := by simp; omega
      clear hop hun hq hb hn
      go_wp2_with fail
      go_ret2
      exact hr.out
    · have hr : Hid (UnTo s w (.returned (.tuple #[.string ⟨#[]⟩, .bool false])) w1) := Lib.hid ⟨by rw [hun.out, hq]; simp only [if_neg hn], hb⟩
      have hd : ((n : Int) != (s.length : Int)) = true := by simp; omega
      clear hop hun hq hb hn
      go_wp2_with fail
      go_ret2
      exact hr.out
/-! Words. -/
def wCell (p : Wrd) : List Value := [.bool p.1, strV p.2]
def wCells (l : List Wrd) : List Value := l.flatMap wCell
theorem wCells_snoc (l : List Wrd) (p : Wrd) : wCells (l ++ [p]) = wCells l ++ [.bool p.1, strV p.2] := by simp [wCells, wCell]
theorem wCells_len (l : List Wrd) : (wCells l).length = l.length * 2 := by
  induction l with
  | nil => rfl
  | cons p l ih => simp only [wCells, List.flatMap_cons, List.length_append, List.length_cons] at ih ⊢; rw [ih]; simp [wCell]; omega
theorem infoWd : InfoOf Tryz.prog 29 (.agg #[.bool false, .string ⟨#[]⟩]) 2 24 := ⟨by kernel_rfl, rfl, by omega⟩
def WordsAt (s : Str) (k : Nat) (l : List Wrd) : Prop := wordsS s = (wordsS (s.drop k)).map (l ++ ·)
theorem WordsAt.start (s : Str) : WordsAt s 0 [] := by
  unfold WordsAt
  rw [List.drop_zero]
  cases wordsS s <;> simp
theorem words_none {s : Str} (h : wordAt s = none) : wordsS s = none := by
  rw [wordsS]
  split
  · rfl
  · rename_i h'
    rw [h] at h'
    cases h'
theorem words_some {s : Str} {p : Wrd} {n : Nat} (h : wordAt s = some (p, n)) : wordsS s = if n = s.length then some [p] else if s[n]? = some 32 then (wordsS (s.drop (n + 1))).map (p :: ·) else none := by
  conv => lhs; rw [wordsS]
  split
  · rename_i h'
    rw [h] at h'
    cases h'
  · rename_i h'
    rw [h] at h'
    cases h'
    rfl
theorem WordsAt.none {s : Str} {k : Nat} {l : List Wrd} (h : WordsAt s k l) (hw : wordAt (s.drop k) = Option.none) : wordsS s = Option.none := by
  unfold WordsAt at h
  rw [h, words_none hw]
  rfl
theorem WordsAt.last {s : Str} {k n : Nat} {l : List Wrd} {p : Wrd} (h : WordsAt s k l) (hk : k ≤ s.length) (hw : wordAt (s.drop k) = some (p, n)) (hn : k + n = s.length) : wordsS s = some (l ++ [p]) := by
  unfold WordsAt at h
  rw [h, words_some hw, if_pos (by rw [List.length_drop]; omega)]
  rfl
theorem WordsAt.bad {s : Str} {k n : Nat} {l : List Wrd} {p : Wrd} (h : WordsAt s k l) (hw : wordAt (s.drop k) = some (p, n)) (hn : k + n < s.length) (hb : s[k + n] ≠ 32) : wordsS s = Option.none := by
  unfold WordsAt at h
  rw [h, words_some hw, if_neg (by rw [List.length_drop]; omega), if_neg (by rw [List.getElem?_drop, List.getElem?_eq_getElem hn]; simpa using hb)]
  rfl
theorem WordsAt.next {s : Str} {k n : Nat} {l : List Wrd} {p : Wrd} (h : WordsAt s k l) (hw : wordAt (s.drop k) = some (p, n)) (hn : k + n < s.length) (hb : s[k + n] = 32) : WordsAt s (k + n + 1) (l ++ [p]) := by
  unfold WordsAt at h ⊢
  rw [h, words_some hw, if_neg (by rw [List.length_drop]; omega), if_pos (by rw [List.getElem?_drop, List.getElem?_eq_getElem hn, hb]), List.drop_drop, Nat.add_assoc]
  cases wordsS (s.drop (k + (n + 1))) <;> simp
def WordsTo (s : Str) (w : World) (e : Ending) (w' : World) : Prop := (match wordsS s with | some l => ∃ A c, e = .returned (.tuple #[.slice A l.length c, .bool true]) ∧ w'.ownsRow w.heap.size 29 2 (.slice A l.length c) l.length (wCells l) | none => e = .returned (.tuple #[.slice none 0 0, .bool false])) ∧ Below w.heap.size w w'
/-- What stands behind a word. -/
structure Behind (s : Str) (k : Nat) (l : List Wrd) (p : Wrd) (n : Nat) : Prop where
  pos : 0 < n
  le : k + n ≤ s.length
  last : k + n = s.length → wordsS s = some (l ++ [p])
  bad : ∀ h : k + n < s.length, s[k + n] ≠ 32 → wordsS s = none
  next : ∀ h : k + n < s.length, s[k + n] = 32 → WordsAt s (k + n + 1) (l ++ [p])
theorem WordsAt.behind {s : Str} {k n : Nat} {l : List Wrd} {p : Wrd} (h : WordsAt s k l) (hk : k ≤ s.length) (hw : wordAt (s.drop k) = some (p, n)) : Behind s k l p n := by
  have hp := wordAt_pos hw
  rw [List.length_drop] at hp
  exact ⟨hp.1, by omega, fun hn => h.last hk hw hn, fun hn hb => h.bad hw hn hb, fun hn hb => h.next hw hn hb⟩
set_option maxRecDepth 100000 in
set_option maxHeartbeats 16000000 in
theorem words_any (s : Str) (w : World) (hs : s.length ≤ 4294967296) (hE : ErrIn w) : Calls Tryz.prog 8 #[strV s] w (WordsTo s w) := by
  have hsz : (⟨s.toArray⟩ : ByteArray).size = s.length := strLn s
  unfold strV
  replace hE := Lib.hid hE
  go_enter Tryz.func8, Tryz.ntmps8
  go_wp2_with fail
  go_loopw [4, 5] (fun v i wr => ∃ (k : Nat) (l : List Wrd) (A : Option Addr) (cp : Nat), k ≤ s.length ∧ l.length ≤ k ∧ i = .int .i64 k ∧ v = .slice A l.length cp ∧ wr.ownsRow w.heap.size 29 2 (.slice A l.length cp) l.length (wCells l) ∧ WordsAt s k l ∧ Below w.heap.size w wr) (fun _ i _ => s.length - (intOf i).toNat)
  case atStart => exact ⟨0, [], none, 0, by omega, by simp, rfl, rfl, ⟨rfl, .inl ⟨rfl, rfl⟩⟩, WordsAt.start s, Below.refl _ _⟩
  case round =>
    obtain ⟨k, l, A, cp, hk, hl, rfl, rfl, hown, hwa, hb⟩ := hrel
    have hsz2 := hb.size
    have hop := opened_any (s.drop k) wr (by rw [List.length_drop]; omega) (hE.out.below hb)
    have hs1 := fun W => run_str_from W s k (by omega)
    have hbeh := Lib.hid (fun p n => hwa.behind (p := p) (n := n) hk)
    have hwn := Lib.hid (fun h => hwa.none h)
    have hwd : wordAt (s.drop k) = match openQ (s.drop k) with | some (t, n) => some ((true, t), n) | none => if 0 < bareN (s.drop k) then some ((false, (s.drop k).take (bareN (s.drop k))), bareN (s.drop k)) else none := rfl
    have hba := fun W => bare_any (s.drop k) W (by rw [List.length_drop]; omega)
    replace hwd := Lib.hid hwd
    clear hwa
    unfold strV at hop hba
    replace hb := Lib.hid hb
    replace hown := Lib.hid hown
    replace hba := Lib.hid hba
    have hbl := Lib.hid (bareN_le (s.drop k))
    have hdl : Hid ((s.drop k).length = s.length - k) := Lib.hid List.length_drop
    have htk : Hid (∀ m, k + m ≤ s.length → (s.take (k + m)).drop k = (s.drop k).take m) := Lib.hid (fun m _ => by rw [List.drop_take]; congr 1; omega)
    obtain ⟨u, hu⟩ : ∃ u, u = s.drop k := ⟨_, rfl⟩
    rw [← hu] at hop hs1 hbeh hwn hwd hba hbl hdl htk
    clear hu
    go_wp2_with fail
    refine hop.mono ?_
    rintro e w1 ⟨⟨t, n, ok, rfl, ho⟩, hb1⟩
    unfold strV
    have hb1' := Lib.hid (hb.out.trans (hb1.mono hsz2))
    have hown1 := own_later hown.out hb1
    have hs2 := hb1.size
    clear hop hown hb1
    cases hq : openQ u with
    | some q =>
      obtain ⟨t', n'⟩ := q
      rw [hq] at ho
      obtain ⟨rfl, rfl, rfl⟩ := ho
      have hB := hbeh.out _ _ (by rw [hwd.out, hq])
      clear hbeh hwn hwd hba hbl hdl htk hq hs1
      have hle := hB.le
      have hpos := hB.pos
      have hlast := Lib.hid hB.last
      have hbad := Lib.hid hB.bad
      have hnext := Lib.hid hB.next
      clear hB
      by_cases hend : k + n = s.length
      · have hr := Lib.hid (hlast.out hend)
        have hd : ((k : Int) + (n : Int) == (s.length : Int)) = true := by simp; omega
        clear hlast hbad hnext hend
        go_wp2_with (at_builtin; refine wpList_append_rd _ rfl (.tmp 21) (.tmp 24) 22 rfl w.heap.size 29 _ 2 24 Tryz.underlying22 infoWd (.slice A l.length cp) l.length (wCells l) rfl (hown1.alloc _) (fun _ => True) (some ⟨w1.heap.size, 0, none⟩) 1 1 [.bool true, .string ⟨t.toArray⟩] rfl rfl (Rd.of_blk (cs := [.bool true, .string ⟨t.toArray⟩]) (r := []) (Blk.new_at rfl) rfl trivial) (by simp [Value.oneCell']) (by unfold maxLen; omega) (by omega) (by simp; omega) ?_; intro v' w2 hown3 hg3 hv3; obtain ⟨A3, c3, rfl, _, _⟩ := own_form hown3; have hbf := Lib.hid ((hb1'.out.alloc (by omega) _).trans (own_below (hown1.alloc _) hg3 (by simp; omega))); replace hown3 := Lib.hid hown3; clear hg3 hv3 hown1; go_frame)
        have hres : Hid (WordsTo s w (.returned (.tuple #[.slice A3 (l.length + 1) c3, .bool true])) w2) := Lib.hid ⟨by rw [hr.out]; exact ⟨A3, c3, by simp, by rw [wCells_snoc, List.length_append, List.length_singleton]; exact hown3.out⟩, hbf.out⟩
        go_ret2
        exact hres.out
      · have hlt2 : k + n < s.length := by omega
        have hd : ((k : Int) + (n : Int) == (s.length : Int)) = false := by simp; omega
        have hidx := index_strB s (k + n) hlt2
        rw [Int.natCast_add] at hidx
        by_cases hsp : s[k + n] = 32
        · have hn2 := Lib.hid (hnext.out hlt2 hsp)
          have hx : bv s[k + n] = 32 := by rw [hsp]; rfl
          rw [hx] at hidx
          clear hlast hbad hnext hend hsp hx
          go_wp2_with (at_builtin; refine wpList_append_rd _ rfl (.tmp 21) (.tmp 24) 22 rfl w.heap.size 29 _ 2 24 Tryz.underlying22 infoWd (.slice A l.length cp) l.length (wCells l) rfl (hown1.alloc _) (fun _ => True) (some ⟨w1.heap.size, 0, none⟩) 1 1 [.bool true, .string ⟨t.toArray⟩] rfl rfl (Rd.of_blk (cs := [.bool true, .string ⟨t.toArray⟩]) (r := []) (Blk.new_at rfl) rfl trivial) (by simp [Value.oneCell']) (by unfold maxLen; omega) (by omega) (by simp; omega) ?_; intro v' w2 hown3 hg3 hv3; obtain ⟨A3, c3, rfl, _, _⟩ := own_form hown3; have hbf := Lib.hid ((hb1'.out.alloc (by omega) _).trans (own_below (hown1.alloc _) hg3 (by simp; omega))); replace hown3 := Lib.hid hown3; clear hg3 hv3 hown1; go_frame)
          go_roundw
          case rel => exact ⟨k + n + 1, l ++ [(true, t)], A3, c3, by omega, by simp; omega, by go_num, by simp, by rw [wCells_snoc, List.length_append, List.length_singleton]; exact hown3.out, hn2.out, hbf.out⟩
          case measure => simp [intOf]; omega
        · have hn2 := Lib.hid (hbad.out hlt2 hsp)
          have hx : (bv s[k + n] != 32) = true := by
            have h1 : s[k + n].toNat ≠ 32 := fun e => hsp (UInt8.toNat_inj.1 e)
            unfold bv
            simp
            omega
          generalize bv s[k + n] = x at hidx hx
          clear hlast hbad hnext hend hsp
          go_wp2_with (at_builtin; refine wpList_append_rd _ rfl (.tmp 21) (.tmp 24) 22 rfl w.heap.size 29 _ 2 24 Tryz.underlying22 infoWd (.slice A l.length cp) l.length (wCells l) rfl (hown1.alloc _) (fun _ => True) (some ⟨w1.heap.size, 0, none⟩) 1 1 [.bool true, .string ⟨t.toArray⟩] rfl rfl (Rd.of_blk (cs := [.bool true, .string ⟨t.toArray⟩]) (r := []) (Blk.new_at rfl) rfl trivial) (by simp [Value.oneCell']) (by unfold maxLen; omega) (by omega) (by simp; omega) ?_; intro v' w2 hown3 hg3 hv3; obtain ⟨A3, c3, rfl, _, _⟩ := own_form hown3; have hbf := Lib.hid ((hb1'.out.alloc (by omega) _).trans (own_below (hown1.alloc _) hg3 (by simp; omega))); replace hown3 := Lib.hid hown3; clear hg3 hv3 hown1; go_frame)
          have hres : Hid (WordsTo s w (.returned (.tuple #[.slice none 0 0, .bool false])) w2) := Lib.hid ⟨by rw [hn2.out], hbf.out⟩
          go_ret2
          exact hres.out
    | none =>
      rw [hq] at ho
      obtain rfl : ok = false := ho
      go_wp2_with fail
      refine (hba.out w1).mono ?_
      rintro e w' ⟨rfl, rfl⟩
      have hbl' := hbl.out
      rw [hdl.out] at hbl'
      obtain ⟨m, hm⟩ : ∃ m, m = bareN u := ⟨_, rfl⟩
      rw [hq] at hwd
      by_cases hpos0 : 0 < m
      · have hB := hbeh.out (false, u.take m) m (by rw [hwd.out]; simp only []; rw [← hm, if_pos hpos0])
        have hms := fun W => run_str_mid W s k (k + m) (by omega) (by omega)
        rw [htk.out m (by omega), Int.natCast_add] at hms
        rw [← hm]
        obtain ⟨v, hv⟩ : ∃ v, v = u.take m := ⟨_, rfl⟩
        rw [← hv] at hB hms
        have hd0 : decide (0 < (m : Int)) = true := by simp; omega
        clear hba hbeh hwn hwd hbl hbl' hdl htk hq hs1 hm hv
        have hle := hB.le
        have hpos := hB.pos
        have hlast := Lib.hid hB.last
        have hbad := Lib.hid hB.bad
        have hnext := Lib.hid hB.next
        clear hB
        by_cases hend : k + m = s.length
        · have hr := Lib.hid (hlast.out hend)
          have hd : ((k : Int) + (m : Int) == (s.length : Int)) = true := by simp; omega
          clear hlast hbad hnext hend
          go_wp2_with (at_builtin; refine wpList_append_rd _ rfl (.tmp 35) (.tmp 43) 22 rfl w.heap.size 29 _ 2 24 Tryz.underlying22 infoWd (.slice A l.length cp) l.length (wCells l) rfl (hown1.alloc _) (fun _ => True) (some ⟨w1.heap.size, 0, none⟩) 1 1 [.bool false, .string ⟨v.toArray⟩] rfl rfl (Rd.of_blk (cs := [.bool false, .string ⟨v.toArray⟩]) (r := []) (Blk.new_at rfl) rfl trivial) (by simp [Value.oneCell']) (by unfold maxLen; omega) (by omega) (by simp; omega) ?_; intro v' w2 hown3 hg3 hv3; obtain ⟨A3, c3, rfl, _, _⟩ := own_form hown3; have hbf := Lib.hid ((hb1'.out.alloc (by omega) _).trans (own_below (hown1.alloc _) hg3 (by simp; omega))); replace hown3 := Lib.hid hown3; clear hg3 hv3 hown1; go_frame)
          have hres : Hid (WordsTo s w (.returned (.tuple #[.slice A3 (l.length + 1) c3, .bool true])) w2) := Lib.hid ⟨by rw [hr.out]; exact ⟨A3, c3, by simp, by rw [wCells_snoc, List.length_append, List.length_singleton]; exact hown3.out⟩, hbf.out⟩
          go_ret2
          exact hres.out
        · have hlt2 : k + m < s.length := by omega
          have hd : ((k : Int) + (m : Int) == (s.length : Int)) = false := by simp; omega
          have hidx := index_strB s (k + m) hlt2
          rw [Int.natCast_add] at hidx
          by_cases hsp : s[k + m] = 32
          · have hn2 := Lib.hid (hnext.out hlt2 hsp)
            have hx : bv s[k + m] = 32 := by rw [hsp]; rfl
            rw [hx] at hidx
            clear hlast hbad hnext hend hsp hx
            go_wp2_with (at_builtin; refine wpList_append_rd _ rfl (.tmp 35) (.tmp 43) 22 rfl w.heap.size 29 _ 2 24 Tryz.underlying22 infoWd (.slice A l.length cp) l.length (wCells l) rfl (hown1.alloc _) (fun _ => True) (some ⟨w1.heap.size, 0, none⟩) 1 1 [.bool false, .string ⟨v.toArray⟩] rfl rfl (Rd.of_blk (cs := [.bool false, .string ⟨v.toArray⟩]) (r := []) (Blk.new_at rfl) rfl trivial) (by simp [Value.oneCell']) (by unfold maxLen; omega) (by omega) (by simp; omega) ?_; intro v' w2 hown3 hg3 hv3; obtain ⟨A3, c3, rfl, _, _⟩ := own_form hown3; have hbf := Lib.hid ((hb1'.out.alloc (by omega) _).trans (own_below (hown1.alloc _) hg3 (by simp; omega))); replace hown3 := Lib.hid hown3; clear hg3 hv3 hown1; go_frame)
            go_roundw
            case rel => exact ⟨k + m + 1, l ++ [(false, v)], A3, c3, by omega, by simp; omega, by go_num, by simp, by rw [wCells_snoc, List.length_append, List.length_singleton]; exact hown3.out, hn2.out, hbf.out⟩
            case measure => simp [intOf]; omega
          · have hn2 := Lib.hid (hbad.out hlt2 hsp)
            have hx : (bv s[k + m] != 32) = true := by
              have h1 : s[k + m].toNat ≠ 32 := fun e => hsp (UInt8.toNat_inj.1 e)
              unfold bv
              simp
              omega
            generalize bv s[k + m] = x at hidx hx
            clear hlast hbad hnext hend hsp
            go_wp2_with (at_builtin; refine wpList_append_rd _ rfl (.tmp 35) (.tmp 43) 22 rfl w.heap.size 29 _ 2 24 Tryz.underlying22 infoWd (.slice A l.length cp) l.length (wCells l) rfl (hown1.alloc _) (fun _ => True) (some ⟨w1.heap.size, 0, none⟩) 1 1 [.bool false, .string ⟨v.toArray⟩] rfl rfl (Rd.of_blk (cs := [.bool false, .string ⟨v.toArray⟩]) (r := []) (Blk.new_at rfl) rfl trivial) (by simp [Value.oneCell']) (by unfold maxLen; omega) (by omega) (by simp; omega) ?_; intro v' w2 hown3 hg3 hv3; obtain ⟨A3, c3, rfl, _, _⟩ := own_form hown3; have hbf := Lib.hid ((hb1'.out.alloc (by omega) _).trans (own_below (hown1.alloc _) hg3 (by simp; omega))); replace hown3 := Lib.hid hown3; clear hg3 hv3 hown1; go_frame)
            have hres : Hid (WordsTo s w (.returned (.tuple #[.slice none 0 0, .bool false])) w2) := Lib.hid ⟨by rw [hn2.out], hbf.out⟩
            go_ret2
            exact hres.out
      · have hn2 := Lib.hid (hwn.out (by rw [hwd.out]; simp only []; rw [← hm, if_neg hpos0]))
        have hd0 : decide (0 < (m : Int)) = false := by simp; omega
        have hres : Hid (WordsTo s w (.returned (.tuple #[.slice none 0 0, .bool false])) w1) := Lib.hid ⟨by rw [hn2.out], hb1'.out⟩
        rw [← hm]
        clear hba hbeh hwn hwd hbl hbl' hdl htk hq hs1 hm
        go_wp2_with fail
        go_ret2
        exact hres.out
end Go.Proofs.YtamdhaoglapnnaaGreatDoor
end
section
/- A desk's commands by their words; the answer of an error; a new desk. -/
namespace Go.Proofs.YtamdhaoglapnnaaGreatDoor
open Go.RowKit Go.Maps Go.MapKept Go.ChangeMaps

theorem cat_str (p q : Str) : (⟨p.toArray⟩ : ByteArray) ++ ⟨q.toArray⟩ = ⟨(p ++ q).toArray⟩ := by
  apply ByteArray.ext
  simp
/-! Maps whose keys are texts. -/
def MapS (w : World) (b : Nat) (es : List (Str × Value)) : Prop := MapV w b (es.map fun p => (strV p.1, p.2))
theorem strV_inj {s t : Str} (h : strV s = strV t) : s = t := by
  unfold strV at h
  injection h with h
  have := congrArg (fun b : ByteArray => b.data.toList) h
  simpa using this
def strK (v : Value) : Prop := ∃ l, keyOf Tryz.prog 9 v = some l
theorem strKeys : KeyOk Tryz.prog 9 strK := KeyOk.of_keyed keyed
theorem strK_of {s : Str} (h : s.length ≤ maxLen) : strK (strV s) := ⟨_, keyStr s h⟩
theorem es_ok {es : List (Str × Value)} (h : ∀ p ∈ es, p.1.length ≤ maxLen) : ∀ p ∈ es.map (fun p => (strV p.1, p.2)), strK p.1 := fun p hp => by
  obtain ⟨q, hq, rfl⟩ := List.mem_map.1 hp
  exact strK_of (h q hq)
theorem es_ne {es : List (Str × Value)} {s : Str} (h : ∀ p ∈ es, p.1 ≠ s) : ∀ p ∈ es.map (fun p => (strV p.1, p.2)), p.1 ≠ strV s := fun p hp e => by
  obtain ⟨q, hq, rfl⟩ := List.mem_map.1 hp
  exact h q hq (strV_inj e)
theorem MapS.store {w : World} {t e : TypeId} {b : Nat} {es : List (Str × Value)} (h : MapS w b es) (ht : Tryz.prog.underlying t = some (.map 9 e)) (hes : ∀ p ∈ es, p.1.length ≤ maxLen) {s : Str} (hs : s.length ≤ maxLen) (hn : ∀ p ∈ es, p.1 ≠ s) (v : Value) :
    ∃ w', (Instr.mapUpdate t (.map (some b)) (strV s) v).run Tryz.prog w = .ok () w' ∧ MapS w' b (es ++ [(s, v)]) ∧ w.mapTurned w' b := by
  obtain ⟨w', h1, h2, h3⟩ := MapV.store h strKeys ht (es_ok hes) (strK_of hs) (es_ne hn) v
  exact ⟨w', h1, by simpa [MapS] using h2, h3⟩
theorem MapS.look {w : World} {t e : TypeId} {b : Nat} {es : List (Str × Value)} (h : MapS w b es) (ht : Tryz.prog.underlying t = some (.map 9 e)) {z : Value} (hz : (zeroValue e).run Tryz.prog w = .ok z w) (hes : ∀ p ∈ es, p.1.length ≤ maxLen) {s : Str} (hs : s.length ≤ maxLen) (hd : es.Pairwise (fun p q => p.1 ≠ q.1)) :
    (Instr.lookup t (.map (some b)) (strV s) false).run Tryz.prog w = .ok (((es.find? fun p => p.1 == s).map (·.2)).getD z) w := by
  cases hf : es.find? (fun p => p.1 == s) with
  | none =>
    have hn : ∀ p ∈ es, p.1 ≠ s := fun p hp => by simpa using List.find?_eq_none.1 hf p hp
    simpa using MapV.look_none h strKeys ht hz (es_ok hes) (strK_of hs) (es_ne hn) false
  | some q =>
    have hq1 : q.1 = s := by simpa using List.find?_some hf
    have hq2 : q ∈ es := List.mem_of_find?_eq_some hf
    have hu : ∀ p ∈ es, p.1 = s → p.2 = q.2 := fun p hp e => by
      have key : ∀ l : List (Str × Value), l.Pairwise (fun p q => p.1 ≠ q.1) → ∀ p ∈ l, ∀ q ∈ l, p.1 = q.1 → p = q := by
        intro l
        induction l with
        | nil => intro _ p hp; cases hp
        | cons x l ih =>
          intro hl p hp q hq e
          have hl' := List.pairwise_cons.1 hl
          rcases List.mem_cons.1 hp with hp' | hp'
          · rcases List.mem_cons.1 hq with hq' | hq'
            · rw [hp', hq']
            · exact absurd (by rw [← hp', e]) (hl'.1 q hq')
          · rcases List.mem_cons.1 hq with hq' | hq'
            · exact absurd (by rw [← hq', e]) (hl'.1 p hp')
            · exact ih hl'.2 p hp' q hq' e
      rw [key es hd p hp q hq2 (e.trans hq1.symm)]
    have := MapV.look_some h strKeys ht (es_ok hes) (strK_of hs) (v := q.2) (List.mem_map.2 ⟨q, hq2, by rw [hq1]⟩) (fun p hp e => by
      obtain ⟨x, hx, rfl⟩ := List.mem_map.1 hp
      exact hu x hx (strV_inj e)) false
    simpa using this
theorem mapTurned_below {w w' : World} {b B : Nat} (h : w.mapTurned w' b) (hB : B ≤ w.heap.size) (hb : B ≤ b) : Below B w w' := (touch_map h).below hB (by simpa using hb)
/-- 'm[k] = v' of a literal. -/
theorem wpList_insert {ops : Array Oper} {rest : List Oper} {o : Oper} {a : Act} {w : World} {Q : Exit → Act → World → Prop} (hgd : o.guard = none) (t e : TypeId) (m k x : Operand) (ho : o.op = .insert t m k x) (ht : Tryz.prog.underlying t = some (.map 9 e)) (b : Nat) (es : List (Str × Value)) (s : Str) (v : Value)
    (hm : a.eval m = .map (some b)) (hk : a.eval k = strV s) (hx : a.eval x = v) (h : MapS w b es) (hes : ∀ p ∈ es, p.1.length ≤ maxLen) (hs : s.length ≤ maxLen) (hn : ∀ p ∈ es, p.1 ≠ s)
    (hp : ∀ w', MapS w' b (es ++ [(s, v)]) → w.mapTurned w' b → wpList Tryz.prog ops Q rest (a.put o.dst undef) w') : wpList Tryz.prog ops Q (o :: rest) a w := by
  obtain ⟨w', h1, h2, h3⟩ := h.store ht hes hs hn v
  refine wpList_skip hgd (w' := w') ?_ (hp w' h2 h3)
  simp only [execOp, ho, hm, hk, hx, Sem.run_bind, h1, Result.andThen_ok, Sem.run_pure]
/-! The commands. -/
def cmdL : List (Str × Str × FuncId) :=
  [([99, 111, 109, 109, 105, 116], [98, 113, 113], 37), ([109, 97, 107, 101], [98, 98], 38), ([100, 114, 111, 112], [98], 39), ([109, 101, 114, 103, 101], [98, 98], 40),
   ([115, 113, 117, 97, 115, 104], [98, 98, 113], 41), ([116, 101, 120, 116], [98], 42), ([108, 111, 103], [98], 43), ([100, 105, 102, 102], [98, 98], 44),
   ([98, 108, 97, 109, 101], [98], 45), ([110, 97, 109, 101, 115], [], 46), ([103, 99], [], 47), ([111, 112, 101, 110], [], 48)]
def cmdV (c : Str × FuncId) : Value := .agg #[strV c.1, .func (.func c.2) #[] #[]]
def cmdE : List (Str × Value) := cmdL.map fun c => (c.1, cmdV c.2)
def noCmd : Value := .agg #[.string ⟨#[]⟩, .nilFunc]
def cmdOf (s : Str) : Value := ((cmdE.find? fun p => p.1 == s).map (·.2)).getD noCmd
theorem failed_any (n : Nat) (hn : n ≤ 1125899906842624) (w : World) (hT : TabK w) :
    Calls Tryz.prog 26 #[.int .i64 (n : Int)] w fun e w' => e = .returned (.string ⟨([101, 114, 114, 111, 114, 32] ++ Lib.decDigits n).toArray⟩) ∧ Below w.heap.size w w' := by
  have hi := itoa_any n hn w hT
  have hl : (Lib.decDigits n).length ≤ 21 := by
    rw [← Lib.itoa_nonneg]
    exact Lib.itoa_length_le _ (by omega) (by omega)
  obtain ⟨q, hq⟩ : ∃ q, q = Lib.decDigits n := ⟨_, rfl⟩
  rw [← hq] at hi hl ⊢
  have hz : (⟨q.toArray⟩ : ByteArray).size = q.length := strLn q
  have hc : (⟨#[101, 114, 114, 111, 114, 32]⟩ : ByteArray) ++ ⟨q.toArray⟩ = ⟨(([101, 114, 114, 111, 114, 32] : Str) ++ q).toArray⟩ := cat_str [101, 114, 114, 111, 114, 32] q
  replace hc := Lib.hid hc
  clear hq
  go_enter Tryz.func26, Tryz.ntmps26
  go_wp2_with fail
  refine hi.mono ?_
  rintro e w1 ⟨rfl, hb⟩
  go_wp2_with fail
  go_returns
  have e1 : (101 :: 114 :: 114 :: 111 :: 114 :: 32 :: q).toArray = (([101, 114, 114, 111, 114, 32] : Str) ++ q).toArray := rfl
  rw [e1, ← hc.out]
  exact ⟨rfl, hb⟩
theorem take_step {w : World} {b k : Nat} {s : Str} {v : Value} (h : MapS w b (cmdE.take k ++ [(s, v)])) (he : cmdE[k]? = some (s, v)) : MapS w b (cmdE.take (k + 1)) := by
  rw [List.take_add_one, he]
  exact h
theorem cmdE_len : ∀ k, ∀ p ∈ cmdE.take k, p.1.length ≤ maxLen := by
  have h : ∀ p ∈ cmdE, p.1.length ≤ 10 := by decide
  intro k p hp
  have := h p (List.mem_of_mem_take hp)
  unfold maxLen
  omega
theorem cmdE_dis : cmdE.Pairwise (fun p q => p.1 ≠ q.1) := by decide
theorem cmd_cases (s : Str) : ∃ f x, cmdOf s = .agg #[strV f, x] ∧ x.oneCell' = true := by
  unfold cmdOf
  cases h : cmdE.find? (fun p => p.1 == s) with
  | none => exact ⟨[], .nilFunc, rfl, rfl⟩
  | some q =>
    obtain ⟨c, hc, he⟩ := List.mem_map.1 (List.mem_of_find?_eq_some h)
    subst he
    exact ⟨c.2.1, _, rfl, rfl⟩
theorem cmdSz : (Tryz.prog.info? 62).map (·.size) = some 2 := by kernel_rfl
theorem zeroCmd (w : World) : (zeroValue 62).run Tryz.prog w = .ok noCmd w := by kernel_rfl
set_option maxRecDepth 100000 in
set_option maxHeartbeats 8000000 in
theorem find_any (s : Str) (w : World) (hs : s.length ≤ maxLen) : Calls Tryz.prog 27 #[strV s] w fun e w' => e = .returned (cmdOf s) ∧ Below w.heap.size w w' := by
  have hmm := @run_makeMap Tryz.prog
  unfold strV
  generalize hW0 : (w.alloc (.cells #[.string ⟨#[]⟩, .nilFunc] 62)).alloc (.map #[] 0) = w0
  have hB0 : Blk w0 w.heap.size 62 [.string ⟨#[]⟩, .nilFunc] := by rw [← hW0]; exact (Blk.new_at (cs := [_, _]) rfl).alloc _
  have hM0 : MapS w0 (w.heap.size + 1) (cmdE.take 0) := by rw [← hW0]; unfold MapS; simpa using MapV.new (w.alloc (.cells #[.string ⟨#[]⟩, .nilFunc] 62))
  have hb0 : Below w.heap.size w w0 := by rw [← hW0]; exact ((Below.refl _ _).alloc (Nat.le_refl _) _).alloc (by simp) _
  have hs0 : w.heap.size + 2 ≤ w0.heap.size := by rw [← hW0]; simp
  replace hB0 := Lib.hid hB0
  replace hb0 := Lib.hid hb0
  replace hs0 := Lib.hid hs0
  obtain ⟨w1, r0, hM, hT⟩ := hM0.store Tryz.underlying81 (cmdE_len 0) (s := [99, 111, 109, 109, 105, 116]) (by unfold maxLen; simp) (by decide) (cmdV ([98, 113, 113], 37))
  have hM1 := take_step hM rfl
  have hB1 := Lib.hid (hB0.out.touch (touch_map hT) (by simp))
  have hb1 := Lib.hid (hb0.out.trans (mapTurned_below hT (by have := hs0.out; omega) (by omega)))
  have hs1 := Lib.hid (Nat.le_trans hs0.out (touch_map hT).size)
  unfold strV cmdV strV at r0
  clear hM hT hM0 hB0 hb0 hs0
  obtain ⟨w2, r1, hM, hT⟩ := hM1.store Tryz.underlying81 (cmdE_len 1) (s := [109, 97, 107, 101]) (by unfold maxLen; simp) (by decide) (cmdV ([98, 98], 38))
  have hM2 := take_step hM rfl
  have hB2 := Lib.hid (hB1.out.touch (touch_map hT) (by simp))
  have hb2 := Lib.hid (hb1.out.trans (mapTurned_below hT (by have := hs1.out; omega) (by omega)))
  have hs2 := Lib.hid (Nat.le_trans hs1.out (touch_map hT).size)
  unfold strV cmdV strV at r1
  clear hM hT hM1 hB1 hb1 hs1
  obtain ⟨w3, r2, hM, hT⟩ := hM2.store Tryz.underlying81 (cmdE_len 2) (s := [100, 114, 111, 112]) (by unfold maxLen; simp) (by decide) (cmdV ([98], 39))
  have hM3 := take_step hM rfl
  have hB3 := Lib.hid (hB2.out.touch (touch_map hT) (by simp))
  have hb3 := Lib.hid (hb2.out.trans (mapTurned_below hT (by have := hs2.out; omega) (by omega)))
  have hs3 := Lib.hid (Nat.le_trans hs2.out (touch_map hT).size)
  unfold strV cmdV strV at r2
  clear hM hT hM2 hB2 hb2 hs2
  obtain ⟨w4, r3, hM, hT⟩ := hM3.store Tryz.underlying81 (cmdE_len 3) (s := [109, 101, 114, 103, 101]) (by unfold maxLen; simp) (by decide) (cmdV ([98, 98], 40))
  have hM4 := take_step hM rfl
  have hB4 := Lib.hid (hB3.out.touch (touch_map hT) (by simp))
  have hb4 := Lib.hid (hb3.out.trans (mapTurned_below hT (by have := hs3.out; omega) (by omega)))
  have hs4 := Lib.hid (Nat.le_trans hs3.out (touch_map hT).size)
  unfold strV cmdV strV at r3
  clear hM hT hM3 hB3 hb3 hs3
  obtain ⟨w5, r4, hM, hT⟩ := hM4.store Tryz.underlying81 (cmdE_len 4) (s := [115, 113, 117, 97, 115, 104]) (by unfold maxLen; simp) (by decide) (cmdV ([98, 98, 113], 41))
  have hM5 := take_step hM rfl
  have hB5 := Lib.hid (hB4.out.touch (touch_map hT) (by simp))
  have hb5 := Lib.hid (hb4.out.trans (mapTurned_below hT (by have := hs4.out; omega) (by omega)))
  have hs5 := Lib.hid (Nat.le_trans hs4.out (touch_map hT).size)
  unfold strV cmdV strV at r4
  clear hM hT hM4 hB4 hb4 hs4
  obtain ⟨w6, r5, hM, hT⟩ := hM5.store Tryz.underlying81 (cmdE_len 5) (s := [116, 101, 120, 116]) (by unfold maxLen; simp) (by decide) (cmdV ([98], 42))
  have hM6 := take_step hM rfl
  have hB6 := Lib.hid (hB5.out.touch (touch_map hT) (by simp))
  have hb6 := Lib.hid (hb5.out.trans (mapTurned_below hT (by have := hs5.out; omega) (by omega)))
  have hs6 := Lib.hid (Nat.le_trans hs5.out (touch_map hT).size)
  unfold strV cmdV strV at r5
  clear hM hT hM5 hB5 hb5 hs5
  obtain ⟨w7, r6, hM, hT⟩ := hM6.store Tryz.underlying81 (cmdE_len 6) (s := [108, 111, 103]) (by unfold maxLen; simp) (by decide) (cmdV ([98], 43))
  have hM7 := take_step hM rfl
  have hB7 := Lib.hid (hB6.out.touch (touch_map hT) (by simp))
  have hb7 := Lib.hid (hb6.out.trans (mapTurned_below hT (by have := hs6.out; omega) (by omega)))
  have hs7 := Lib.hid (Nat.le_trans hs6.out (touch_map hT).size)
  unfold strV cmdV strV at r6
  clear hM hT hM6 hB6 hb6 hs6
  obtain ⟨w8, r7, hM, hT⟩ := hM7.store Tryz.underlying81 (cmdE_len 7) (s := [100, 105, 102, 102]) (by unfold maxLen; simp) (by decide) (cmdV ([98, 98], 44))
  have hM8 := take_step hM rfl
  have hB8 := Lib.hid (hB7.out.touch (touch_map hT) (by simp))
  have hb8 := Lib.hid (hb7.out.trans (mapTurned_below hT (by have := hs7.out; omega) (by omega)))
  have hs8 := Lib.hid (Nat.le_trans hs7.out (touch_map hT).size)
  unfold strV cmdV strV at r7
  clear hM hT hM7 hB7 hb7 hs7
  obtain ⟨w9, r8, hM, hT⟩ := hM8.store Tryz.underlying81 (cmdE_len 8) (s := [98, 108, 97, 109, 101]) (by unfold maxLen; simp) (by decide) (cmdV ([98], 45))
  have hM9 := take_step hM rfl
  have hB9 := Lib.hid (hB8.out.touch (touch_map hT) (by simp))
  have hb9 := Lib.hid (hb8.out.trans (mapTurned_below hT (by have := hs8.out; omega) (by omega)))
  have hs9 := Lib.hid (Nat.le_trans hs8.out (touch_map hT).size)
  unfold strV cmdV strV at r8
  clear hM hT hM8 hB8 hb8 hs8
  obtain ⟨w10, r9, hM, hT⟩ := hM9.store Tryz.underlying81 (cmdE_len 9) (s := [110, 97, 109, 101, 115]) (by unfold maxLen; simp) (by decide) (cmdV ([], 46))
  have hM10 := take_step hM rfl
  have hB10 := Lib.hid (hB9.out.touch (touch_map hT) (by simp))
  have hb10 := Lib.hid (hb9.out.trans (mapTurned_below hT (by have := hs9.out; omega) (by omega)))
  have hs10 := Lib.hid (Nat.le_trans hs9.out (touch_map hT).size)
  unfold strV cmdV strV at r9
  clear hM hT hM9 hB9 hb9 hs9
  obtain ⟨w11, r10, hM, hT⟩ := hM10.store Tryz.underlying81 (cmdE_len 10) (s := [103, 99]) (by unfold maxLen; simp) (by decide) (cmdV ([], 47))
  have hM11 := take_step hM rfl
  have hB11 := Lib.hid (hB10.out.touch (touch_map hT) (by simp))
  have hb11 := Lib.hid (hb10.out.trans (mapTurned_below hT (by have := hs10.out; omega) (by omega)))
  have hs11 := Lib.hid (Nat.le_trans hs10.out (touch_map hT).size)
  unfold strV cmdV strV at r10
  clear hM hT hM10 hB10 hb10 hs10
  obtain ⟨w12, r11, hM, hT⟩ := hM11.store Tryz.underlying81 (cmdE_len 11) (s := [111, 112, 101, 110]) (by unfold maxLen; simp) (by decide) (cmdV ([], 48))
  have hM12 := take_step hM rfl
  have hB12 := Lib.hid (hB11.out.touch (touch_map hT) (by simp))
  have hb12 := Lib.hid (hb11.out.trans (mapTurned_below hT (by have := hs11.out; omega) (by omega)))
  have hs12 := Lib.hid (Nat.le_trans hs11.out (touch_map hT).size)
  unfold strV cmdV strV at r11
  clear hM hT hM11 hB11 hb11 hs11
  have hlk := hM12.look Tryz.underlying81 (zeroCmd w12) (cmdE_len 12) hs (cmdE_dis.sublist (List.take_sublist _ _))
  rw [show cmdE.take (11 + 1) = cmdE from rfl] at hlk
  change _ = Result.ok (cmdOf s) w12 at hlk
  obtain ⟨f, x, hf, hx⟩ := cmd_cases s
  rw [hf] at hlk ⊢
  unfold strV at hlk
  replace hx := Lib.hid hx
  replace hf := Lib.hid hf
  have hone : Hid (∀ v ∈ [strV f, x], v.oneCell' = true) := Lib.hid (fun v hv => by
    simp only [List.mem_cons, List.not_mem_nil, or_false] at hv
    rcases hv with rfl | rfl
    · rfl
    · exact hx.out)
  clear hM12 hs12
  go_enter Tryz.func27, Tryz.ntmps27
  go_wp2_with (first
    | (refine wpList_store_blk rfl 62 (.tmp 2) (.tmp 18) rfl w.heap.size [strV f, x] rfl rfl 62 [.string ⟨#[]⟩, .nilFunc] hB12.out rfl cmdSz hone.out ?_)
    | fail)
  refine ret_blk rfl w.heap.size 62 [strV f, x] _ rfl (hB12.out.setRow_same _) Tryz.underlying62 rfl cmdSz rfl ⟨rfl, below_setRow hb12.out (Nat.le_refl _) _⟩
def deskCells (r g : Nat) (a : Str) : List Value := [.pointer (some ⟨r, 0, none⟩), .pointer (some ⟨g, 0, none⟩), strV a]
set_option maxRecDepth 100000 in
set_option maxHeartbeats 8000000 in
theorem desknew_any (a : Str) (ha : nmOk a = true) (w : World) : Calls Tryz.prog 21 #[strV a] w fun e w' => ∃ d r by_ rb v g, e = .returned (.tuple #[.pointer (some ⟨d, 0, none⟩), .int .i64 0]) ∧ Blk w' d 36 (deskCells r g a) ∧ Blk w' r 104 (repoCells nilS by_ rb g a false) ∧ Ref w w.heap.size rb g v (DS.new 16777216) [] w' ∧ w.heap.size ≤ r ∧ w.heap.size ≤ d := by
  have hn := dnew_any 16777216 w (by omega) (by omega)
  unfold strV
  go_enter Tryz.func21, Tryz.ntmps21
  go_wp2_with fail
  refine hn.mono ?_
  rintro e w1 ⟨g, L, rfl, hD, hL, hb⟩
  have hs : Ses w w.heap.size g (DS.new 16777216) w1 := ⟨hb, hb.size, L, hD, hL⟩
  go_wp2_with fail
  have ho := ropen_none hs (Live.new (by omega) (by omega)) a ha
  unfold strV at ho
  refine ho.mono ?_
  rintro e w2 ⟨r, by_, rb, v, rfl, hR, hM, hRef, hr, hby⟩
  go_wp2_with fail
  go_ret2
  exact ⟨w2.heap.size, r, by_, rb, v, g, rfl, Blk.new_at rfl, hR.alloc _, hRef.alloc _, hr, hRef.size⟩
end Go.Proofs.YtamdhaoglapnnaaGreatDoor
end
