/- Quoted texts and words of a line, plainly: one scan with the document's pieces, one that takes more and looks again. -/
import Derived.Test.YtamdhaoglapnnaaGreatDoorM01
namespace Go.Proofs.YtamdhaoglapnnaaGreatDoor
open Go.RowKit

def quotedB (c : UInt8) : List UInt8 := if c == 34 || c == 92 then [92, c] else if c == 10 then [92, 110] else if c < 32 || 126 < c then [92, 120, hexD (c.toNat / 16), hexD (c.toNat % 16)] else [c]
def quotesB (t : List UInt8) : List UInt8 := t.flatMap quotedB
def quoteS (t : List UInt8) : List UInt8 := 34 :: (quotesB t ++ [34])
def byteN (k : Nat) : UInt8 := UInt8.ofNat k
/-- The document's piece at the beginning of s: shortest first, then by the byte. -/
def pieceN (s : List UInt8) (n : Nat) : Option UInt8 := (List.range 256).findSome? fun c => if quotedB (byteN c) = s.take n ∧ n ≤ s.length then some (byteN c) else none
def pieceP (s : List UInt8) : Option (UInt8 × Nat) := [1, 2, 3, 4].findSome? fun n => (pieceN s n).map fun c => (c, n)
theorem byteN_toNat (c : UInt8) : byteN c.toNat = c := by simp [byteN]
theorem quoted_len_all : ∀ k : Fin 256, (1 ≤ (quotedB (byteN k.1)).length ∧ (quotedB (byteN k.1)).length ≤ 4) ∧ (quotedB (byteN k.1)).head? ≠ some 34 := by decide +kernel
theorem quoted_len (c : UInt8) : 1 ≤ (quotedB c).length ∧ (quotedB c).length ≤ 4 := by
  have h := (quoted_len_all ⟨c.toNat, c.toNat_lt⟩).1
  rwa [byteN_toNat] at h
theorem quoted_head (c : UInt8) (r : List UInt8) : ∃ x y, quotedB c ++ r = x :: y ∧ x ≠ 34 := by
  have h := (quoted_len_all ⟨c.toNat, c.toNat_lt⟩).2
  have h1 := quoted_len c
  dsimp only at h
  rw [byteN_toNat] at h
  cases hq : quotedB c with
  | nil => rw [hq] at h1; simp at h1
  | cons x y =>
    rw [hq] at h
    exact ⟨x, y ++ r, rfl, fun e => h (by simp [e])⟩
/-- No piece begins another one. -/
theorem quoted_free_all : ∀ a b : Fin 256, (quotedB (byteN a.1)).isPrefixOf (quotedB (byteN b.1)) = true → a = b := by decide +kernel
theorem quoted_free {a b : UInt8} {r r' : List UInt8} (h : quotedB a ++ r = quotedB b ++ r') : a = b := by
  have key : ∀ a b : UInt8, quotedB a <+: quotedB b → a = b := by
    intro a b hp
    have h1 := quoted_free_all ⟨a.toNat, a.toNat_lt⟩ ⟨b.toNat, b.toNat_lt⟩
    dsimp only at h1
    rw [byteN_toNat, byteN_toNat] at h1
    have h2 := h1 (List.isPrefixOf_iff_prefix.2 hp)
    have h3 : a.toNat = b.toNat := by simpa using congrArg Fin.val h2
    exact UInt8.toNat_inj.1 h3
  rcases Nat.le_total (quotedB a).length (quotedB b).length with hl | hl
  · refine key a b (List.prefix_of_prefix_length_le (l₃ := quotedB a ++ r) (List.prefix_append _ _) ?_ hl)
    rw [h]
    exact List.prefix_append _ _
  · refine (key b a (List.prefix_of_prefix_length_le (l₃ := quotedB a ++ r) ?_ (List.prefix_append _ _) hl)).symm
    rw [h]
    exact List.prefix_append _ _
theorem pieceN_some {s : List UInt8} {n : Nat} {c : UInt8} (h : pieceN s n = some c) : s.take n = quotedB c ∧ n ≤ s.length := by
  obtain ⟨k, _, hk⟩ := List.exists_of_findSome?_eq_some h
  split at hk
  · rename_i hq
    obtain rfl := Option.some.inj hk
    exact ⟨hq.1.symm, hq.2⟩
  · cases hk
theorem pieceP_some {s : List UInt8} {n : Nat} {c : UInt8} (h : pieceP s = some (c, n)) : s = quotedB c ++ s.drop n ∧ n = (quotedB c).length := by
  obtain ⟨k, _, hk⟩ := List.exists_of_findSome?_eq_some h
  obtain ⟨d, hd, he⟩ := Option.map_eq_some_iff.1 hk
  cases he
  obtain ⟨h1, h2⟩ := pieceN_some hd
  refine ⟨?_, ?_⟩
  · rw [← h1, List.take_append_drop]
  · rw [← h1, List.length_take]
    omega
theorem pieceN_quoted (c : UInt8) (r : List UInt8) : pieceN (quotedB c ++ r) (quotedB c).length = some c := by
  cases h : pieceN (quotedB c ++ r) (quotedB c).length with
  | some d =>
    obtain ⟨h1, _⟩ := pieceN_some h
    rw [List.take_left] at h1
    exact congrArg some (quoted_free (r := []) (r' := []) (by rw [h1]))
  | none =>
    exfalso
    unfold pieceN at h
    rw [List.findSome?_eq_none_iff] at h
    have h1 := h c.toNat (List.mem_range.2 c.toNat_lt)
    rw [byteN_toNat, List.take_left] at h1
    simp at h1
theorem pieceP_quoted (c : UInt8) (r : List UInt8) : pieceP (quotedB c ++ r) = some (c, (quotedB c).length) := by
  cases h : pieceP (quotedB c ++ r) with
  | some p =>
    obtain ⟨d, n⟩ := p
    obtain ⟨h1, h2⟩ := pieceP_some h
    have h3 := quoted_free h1
    subst h3
    rw [h2]
  | none =>
    exfalso
    unfold pieceP at h
    rw [List.findSome?_eq_none_iff] at h
    have hl := quoted_len c
    have h1 := h (quotedB c).length (by
      simp only [List.mem_cons, List.not_mem_nil, or_false]
      omega)
    rw [pieceN_quoted] at h1
    simp at h1
/-- The document's scan, behind the first mark: the text, and how many bytes it takes with the last mark. -/
def scanR (s : List UInt8) : Option (List UInt8 × Nat) :=
  if _hs : s = [] then none else if s.head? = some 34 then some ([], 1) else
  match _h : pieceP s with
  | none => none
  | some (c, n) => (scanR (s.drop n)).map fun p => (c :: p.1, n + p.2)
termination_by s.length
decreasing_by
  have h1 := (pieceP_some _h).2
  have h2 := quoted_len c
  have h3 : 0 < s.length := List.length_pos_iff.2 _hs
  rw [List.length_drop]
  omega
theorem scanR_quotes (t r : List UInt8) : scanR (quotesB t ++ 34 :: r) = some (t, (quotesB t).length + 1) := by
  induction t with
  | nil => rw [scanR]; simp [quotesB]
  | cons c t ih =>
    have he : quotesB (c :: t) ++ 34 :: r = quotedB c ++ (quotesB t ++ 34 :: r) := by simp [quotesB]
    rw [he, scanR]
    obtain ⟨x, y, hxy, hx⟩ := quoted_head c (quotesB t ++ 34 :: r)
    rw [dif_neg (by rw [hxy]; simp), if_neg (by rw [hxy]; simpa using hx)]
    split
    · rename_i h
      rw [pieceP_quoted] at h
      cases h
    · rename_i d n h
      rw [pieceP_quoted] at h
      cases h
      rw [List.drop_left, ih]
      simp [quotesB, Nat.add_assoc]
theorem scanR_some : ∀ (m : Nat) {s t : List UInt8} {n : Nat}, s.length ≤ m → scanR s = some (t, n) → s = quotesB t ++ 34 :: s.drop n ∧ n = (quotesB t).length + 1 := by
  intro m
  induction m with
  | zero =>
    intro s t n hm h
    obtain rfl : s = [] := List.length_eq_zero_iff.1 (by omega)
    rw [scanR] at h
    simp at h
  | succ m ih =>
    intro s t n hm h
    rw [scanR] at h
    split at h
    · cases h
    rename_i hs
    split at h
    · rename_i h34
      cases h
      cases s with
      | nil => exact absurd rfl hs
      | cons x y =>
        simp only [List.head?_cons, Option.some.injEq] at h34
        subst h34
        simp [quotesB]
    split at h
    · cases h
    rename_i c k hp
    obtain ⟨h1, h2⟩ := pieceP_some hp
    have hq := quoted_len c
    obtain ⟨p, hp1, hp2⟩ := Option.map_eq_some_iff.1 h
    cases hp2
    have hpos : 0 < s.length := List.length_pos_iff.2 hs
    obtain ⟨h3, h4⟩ := ih (s := s.drop k) (t := p.1) (n := p.2) (by rw [List.length_drop]; omega) hp1
    rw [List.drop_drop] at h3
    refine ⟨?_, ?_⟩
    · have he : quotesB (c :: p.1) = quotedB c ++ quotesB p.1 := by simp [quotesB]
      rw [he, List.append_assoc, ← h3]
      exact h1
    · have he : quotesB (c :: p.1) = quotedB c ++ quotesB p.1 := by simp [quotesB]
      rw [he, List.length_append]
      omega
/-- The scan that takes more. -/
def hexV (c : UInt8) : Option Nat := if 48 ≤ c && c ≤ 57 then some (c.toNat - 48) else if 97 ≤ c && c ≤ 102 then some (c.toNat - 87) else if 65 ≤ c && c ≤ 70 then some (c.toNat - 55) else none
def hexVV (a b : UInt8) : Option Nat := (hexV a).bind fun x => (hexV b).map fun y => 16 * x + y
def oneP : List UInt8 → Option (UInt8 × Nat)
  | [] => none
  | c :: r => if c ≠ 92 then some (c, 1) else
    match r with
    | [] => none
    | d :: r' => if d == 34 || d == 92 then some (d, 2) else if d == 110 then some (10, 2) else if d == 120 then
        match r' with
        | a :: b :: _ => (hexVV a b).map fun n => (byteN n, 4)
        | _ => none
      else none
theorem one_quoted_all : ∀ k : Fin 256, quotedB (byteN k.1) = [92, byteN k.1] ∧ (k.1 = 34 ∨ k.1 = 92) ∨ quotedB (byteN k.1) = [92, 110] ∧ k.1 = 10 ∨ (quotedB (byteN k.1) = [92, 120, hexD (k.1 / 16), hexD (k.1 % 16)] ∧ hexVV (hexD (k.1 / 16)) (hexD (k.1 % 16)) = some k.1) ∨ (quotedB (byteN k.1) = [byteN k.1] ∧ byteN k.1 ≠ 92) := by decide +kernel
theorem one_quoted (c : UInt8) (r : List UInt8) : oneP (quotedB c ++ r) = some (c, (quotedB c).length) := by
  have h := one_quoted_all ⟨c.toNat, c.toNat_lt⟩
  dsimp only at h
  rw [byteN_toNat] at h
  rcases h with ⟨h, h1⟩ | ⟨h, h1⟩ | ⟨h, h1⟩ | ⟨h, h1⟩
  · have h2 : (c == 34 || c == 92) = true := by
      rcases h1 with h1 | h1
      · have : c = 34 := UInt8.toNat_inj.1 (by simpa using h1)
        simp [this]
      · have : c = 92 := UInt8.toNat_inj.1 (by simpa using h1)
        simp [this]
    rw [h]
    simp [oneP, h2]
  · have : c = 10 := UInt8.toNat_inj.1 (by simpa using h1)
    rw [h, this]
    simp [oneP]
  · rw [h]
    simp [oneP, h1, byteN_toNat]
  · rw [h]
    simp [oneP, h1]
theorem one_len {s : List UInt8} {c : UInt8} {n : Nat} (h : oneP s = some (c, n)) : 1 ≤ n ∧ n ≤ 4 ∧ n ≤ s.length := by
  unfold oneP at h
  repeat' split at h
  all_goals first | (cases h; done) | (cases h; simp; done) | (obtain ⟨_, _, h2⟩ := Option.map_eq_some_iff.1 h; cases h2; simp)
def scanD (s : List UInt8) : Option (List UInt8 × Nat) :=
  if _hs : s = [] then none else if s.head? = some 34 then some ([], 1) else
  match _h : oneP s with
  | none => none
  | some (c, n) => (scanD (s.drop n)).map fun p => (c :: p.1, n + p.2)
termination_by s.length
decreasing_by
  have h1 := one_len _h
  rw [List.length_drop]
  omega
theorem scanD_quotes (t r : List UInt8) : scanD (quotesB t ++ 34 :: r) = some (t, (quotesB t).length + 1) := by
  induction t with
  | nil => rw [scanD]; simp [quotesB]
  | cons c t ih =>
    have he : quotesB (c :: t) ++ 34 :: r = quotedB c ++ (quotesB t ++ 34 :: r) := by simp [quotesB]
    rw [he, scanD]
    obtain ⟨x, y, hxy, hx⟩ := quoted_head c (quotesB t ++ 34 :: r)
    rw [dif_neg (by rw [hxy]; simp), if_neg (by rw [hxy]; simpa using hx)]
    split
    · rename_i h
      rw [one_quoted] at h
      cases h
    · rename_i d n h
      rw [one_quoted] at h
      cases h
      rw [List.drop_left, ih]
      simp [quotesB, Nat.add_assoc]
/-- The quoted text at the beginning of s: the text, and how many bytes it takes. -/
def openQ (s : List UInt8) : Option (List UInt8 × Nat) := if s.head? = some 34 then (scanR (s.drop 1)).map fun p => (p.1, p.2 + 1) else none
theorem openQ_quote (t r : List UInt8) : openQ (quoteS t ++ r) = some (t, (quoteS t).length) := by
  have he : quoteS t ++ r = 34 :: (quotesB t ++ 34 :: r) := by simp [quoteS]
  rw [he, openQ, if_pos (by simp), List.drop_one, List.tail_cons, scanR_quotes]
  simp [quoteS]
theorem openQ_some {s t : List UInt8} {n : Nat} (h : openQ s = some (t, n)) : s = quoteS t ++ s.drop n ∧ n = (quoteS t).length := by
  unfold openQ at h
  split at h
  · rename_i h34
    obtain ⟨p, hp, he⟩ := Option.map_eq_some_iff.1 h
    cases he
    obtain ⟨h1, h2⟩ := scanR_some _ (Nat.le_refl _) hp
    cases s with
    | nil => simp at h34
    | cons x y =>
      simp only [List.head?_cons, Option.some.injEq] at h34
      subst h34
      simp only [List.drop_one, List.tail_cons] at h1
      refine ⟨?_, ?_⟩
      · simp only [quoteS, List.cons_append, List.append_assoc, List.drop_succ_cons, List.nil_append]
        rw [← h1]
      · simp [quoteS, h2]
  · cases h
/-- What the looser scan finds is looked at again: it is the document's. -/
theorem open_loose {s t : List UInt8} {n : Nat} (h : scanD (s.drop 1) = some (t, n)) : (quoteS t = s.take (n + 1) ∧ openQ s = some (t, n + 1)) ∨ (quoteS t ≠ s.take (n + 1) ∧ openQ s = none) := by
  by_cases hq : quoteS t = s.take (n + 1)
  · left
    refine ⟨hq, ?_⟩
    have h1 : s = quoteS t ++ s.drop (n + 1) := by rw [hq, List.take_append_drop]
    have h2 := openQ_quote t (s.drop (n + 1))
    rw [← h1] at h2
    have h3 : (quoteS t).length = n + 1 := by
      have h4 := scanD_quotes t (s.drop (n + 1))
      have h5 : s.drop 1 = quotesB t ++ 34 :: s.drop (n + 1) := by
        have h6 := congrArg (List.drop 1) h1
        rw [h6]
        simp [quoteS]
      rw [← h5, h] at h4
      have h7 : n = (quotesB t).length + 1 := by
        have := Option.some.inj h4
        exact congrArg Prod.snd this
      simp [quoteS, h7]
    rw [h2, h3]
  · right
    refine ⟨hq, ?_⟩
    cases ho : openQ s with
    | none => rfl
    | some p =>
      exfalso
      obtain ⟨t', n'⟩ := p
      obtain ⟨h1, h2⟩ := openQ_some ho
      have h5 : s.drop 1 = quotesB t' ++ 34 :: s.drop n' := by
        have h6 := congrArg (List.drop 1) h1
        rw [h6]
        simp [quoteS]
      have h4 := scanD_quotes t' (s.drop n')
      rw [← h5, h] at h4
      have h7 := Option.some.inj h4
      have h8 : t = t' := congrArg Prod.fst h7
      have h9 : n = (quotesB t').length + 1 := congrArg Prod.snd h7
      subst h8
      apply hq
      have h10 : n + 1 = n' := by rw [h2, h9]; simp [quoteS]
      rw [h10]
      conv => rhs; rw [h1]
      rw [h2, List.take_left]
theorem open_none {s : List UInt8} (h : scanD (s.drop 1) = none) : openQ s = none := by
  cases ho : openQ s with
  | none => rfl
  | some p =>
    exfalso
    obtain ⟨t', n'⟩ := p
    obtain ⟨h1, h2⟩ := openQ_some ho
    have h5 : s.drop 1 = quotesB t' ++ 34 :: s.drop n' := by
      have h6 := congrArg (List.drop 1) h1
      rw [h6]
      simp [quoteS]
    have h4 := scanD_quotes t' (s.drop n')
    rw [← h5, h] at h4
    cases h4
/-- P18.1. -/
def unquoteS (s : List UInt8) : Option (List UInt8) := match openQ s with
  | some (t, n) => if n = s.length then some t else none
  | none => none
theorem unquote_quote (t : List UInt8) : unquoteS (quoteS t) = some t := by
  have h := openQ_quote t []
  rw [List.append_nil] at h
  rw [unquoteS, h]
  simp
theorem quote_unquote {s t : List UInt8} (h : unquoteS s = some t) : quoteS t = s := by
  unfold unquoteS at h
  split at h
  · rename_i t' n ho
    split at h
    · rename_i hn
      cases h
      obtain ⟨h1, _⟩ := openQ_some ho
      rw [hn, List.drop_length, List.append_nil] at h1
      exact h1.symm
    · cases h
  · cases h
/-! Words of a line. -/
def bareB (c : UInt8) : Bool := c != 34 && (32 < c && c ≤ 126)
def bareN (s : List UInt8) : Nat := (s.takeWhile bareB).length
abbrev Wrd := Bool × List UInt8
def wordAt (s : List UInt8) : Option (Wrd × Nat) := match openQ s with
  | some (t, n) => some ((true, t), n)
  | none => if 0 < bareN s then some ((false, s.take (bareN s)), bareN s) else none
theorem bareN_le (s : List UInt8) : bareN s ≤ s.length := (List.takeWhile_sublist bareB).length_le
theorem wordAt_pos {s : List UInt8} {p : Wrd} {n : Nat} (h : wordAt s = some (p, n)) : 0 < n ∧ n ≤ s.length := by
  unfold wordAt at h
  split at h
  · rename_i t k ho
    cases h
    obtain ⟨h1, h2⟩ := openQ_some ho
    have h3 := congrArg List.length h1
    rw [List.length_append] at h3
    have h4 : (quoteS t).length = (quotesB t).length + 2 := by simp [quoteS]
    omega
  · split at h
    · rename_i hb
      cases h
      exact ⟨hb, bareN_le s⟩
    · cases h
def wordsS (s : List UInt8) : Option (List Wrd) :=
  match _h : wordAt s with
  | none => none
  | some (p, n) => if n = s.length then some [p] else if s[n]? = some 32 then (wordsS (s.drop (n + 1))).map (p :: ·) else none
termination_by s.length
decreasing_by
  have h1 := wordAt_pos _h
  rw [List.length_drop]
  omega
def wordT (p : Wrd) : List UInt8 := if p.1 then quoteS p.2 else p.2
def wordOk (p : Wrd) : Bool := p.1 || (p.2.all bareB && decide (p.2 ≠ []))
def lineW : List Wrd → List UInt8
  | [] => []
  | [p] => wordT p
  | p :: q :: l => wordT p ++ 32 :: lineW (q :: l)
theorem takeWhile_bare {t r : List UInt8} (ht : t.all bareB = true) (hr : r = [] ∨ ∃ r', r = 32 :: r') : bareN (t ++ r) = t.length := by
  unfold bareN
  induction t with
  | nil =>
    rcases hr with rfl | ⟨r', rfl⟩
    · rfl
    · simp [show bareB 32 = false by decide]
  | cons c t ih =>
    simp only [List.all_cons, Bool.and_eq_true] at ht
    simp [ht.1, ih ht.2]
theorem wordAt_word {p : Wrd} {r : List UInt8} (hp : wordOk p = true) (hr : r = [] ∨ ∃ r', r = 32 :: r') : wordAt (wordT p ++ r) = some (p, (wordT p).length) := by
  obtain ⟨q, t⟩ := p
  cases q with
  | true => simp [wordAt, wordT, openQ_quote]
  | false =>
    simp only [wordOk, Bool.false_or, Bool.and_eq_true, decide_eq_true_eq] at hp
    obtain ⟨h1, h2⟩ := hp
    have ho : openQ (t ++ r) = none := by
      cases t with
      | nil => exact absurd rfl h2
      | cons c t =>
        simp only [List.all_cons, Bool.and_eq_true] at h1
        have hc : c ≠ 34 := by
          intro e
          rw [e] at h1
          exact absurd h1.1 (by decide)
        simp [openQ, hc]
    have hb := takeWhile_bare h1 hr
    have hpos : 0 < t.length := List.length_pos_iff.2 h2
    simp [wordAt, wordT, ho, hb, hpos]
theorem words_line : ∀ (l : List Wrd), l ≠ [] → (∀ p ∈ l, wordOk p = true) → wordsS (lineW l) = some l
  | [], h, _ => absurd rfl h
  | [p], _, hl => by
    have h := wordAt_word (r := []) (hl p (by simp)) (Or.inl rfl)
    rw [List.append_nil] at h
    rw [lineW, wordsS]
    split
    · rename_i h1
      rw [h] at h1
      cases h1
    · rename_i q n h1
      rw [h] at h1
      cases h1
      simp
  | p :: q :: l, _, hl => by
    have h := wordAt_word (r := 32 :: lineW (q :: l)) (hl p (by simp)) (Or.inr ⟨_, rfl⟩)
    have ih := words_line (q :: l) (by simp) (fun x hx => hl x (List.mem_cons_of_mem _ hx))
    rw [lineW, wordsS]
    split
    · rename_i h1
      rw [h] at h1
      cases h1
    · rename_i x n h1
      rw [h] at h1
      cases h1
      have h2 : (wordT p ++ 32 :: lineW (q :: l)).drop ((wordT p).length + 1) = lineW (q :: l) := by
        rw [← List.drop_drop, List.drop_left]
        rfl
      rw [if_neg (by simp), if_pos (by simp), h2, ih]
      rfl
end Go.Proofs.YtamdhaoglapnnaaGreatDoor
