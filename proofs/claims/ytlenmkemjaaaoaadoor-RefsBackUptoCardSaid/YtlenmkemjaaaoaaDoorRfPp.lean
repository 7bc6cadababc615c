/- How the reference reads a text, plainly: word by word; it is what the program's way makes of a text. -/
import Derived.Test.YtlenmkemjaaaoaaDoorRs
namespace Go.Proofs.YtlenmkemjaaaoaaDoor

def isSep (c : UInt8) : Bool := c == 32 || c == 10
/-- The word ahead of the first blank or line's end, that byte, and what is behind. -/
def cutW : Str → Option (Str × UInt8 × Str)
  | [] => none
  | c :: r => if isSep c = true then some ([], c, r) else (cutW r).map fun x => (c :: x.1, x.2.1, x.2.2)
theorem cutW_some : ∀ {s w : Str} {c : UInt8} {r : Str}, cutW s = some (w, c, r) → s = w ++ c :: r ∧ isSep c = true ∧ ∀ x ∈ w, isSep x = false
  | [], w, c, r, h => by cases h
  | a :: s, w, c, r, h => by
    unfold cutW at h
    split at h <;> rename_i ha
    · simp only [Option.some.injEq, Prod.mk.injEq] at h
      obtain ⟨rfl, rfl, rfl⟩ := h
      exact ⟨rfl, ha, by simp⟩
    · obtain ⟨⟨w', c', r'⟩, h1, h2⟩ := Option.map_eq_some_iff.1 h
      simp only [Prod.mk.injEq] at h2
      obtain ⟨rfl, rfl, rfl⟩ := h2
      obtain ⟨g1, g2, g3⟩ := cutW_some h1
      refine ⟨by rw [g1]; rfl, g2, fun x hx => ?_⟩
      rcases List.mem_cons.1 hx with rfl | hx
      · simpa using ha
      · exact g3 x hx
theorem cutW_of : ∀ {w : Str} {c : UInt8} (r : Str), (∀ x ∈ w, isSep x = false) → isSep c = true → cutW (w ++ c :: r) = some (w, c, r)
  | [], c, r, _, hc => by
    show cutW (c :: r) = _
    unfold cutW
    rw [if_pos hc]
  | a :: w, c, r, h, hc => by
    show cutW (a :: (w ++ c :: r)) = _
    unfold cutW
    rw [if_neg (by rw [h a (by simp)]; decide), cutW_of r (fun x hx => h x (by simp [hx])) hc]
    rfl
theorem cutW_none : ∀ {s : Str}, (∀ x ∈ s, isSep x = false) → cutW s = none
  | [], _ => rfl
  | a :: s, h => by
    unfold cutW
    rw [if_neg (by rw [h a (by simp)]; decide), cutW_none (fun x hx => h x (by simp [hx]))]
    rfl
theorem cutW_len {s w : Str} {c : UInt8} {r : Str} (h : cutW s = some (w, c, r)) : s.length = w.length + r.length + 1 := by
  rw [(cutW_some h).1, List.length_append, List.length_cons]; omega
/-- The digests of a line, and what is behind the line. -/
def rtail (c : UInt8) (r : Str) : Option (List Str × Str) :=
  if c = 10 then some ([], r) else
  match _h : cutW r with
  | none => none
  | some (w, c', r') => if pok w = true then (rtail c' r').map fun x => (pd w :: x.1, x.2) else none
termination_by r.length
decreasing_by have := cutW_len _h; omega
theorem rtail_end (r : Str) : rtail 10 r = some ([], r) := by
  unfold rtail; rw [if_pos rfl]
theorem rtail_none {c : UInt8} (hc : c ≠ 10) {r : Str} (h : cutW r = none) : rtail c r = none := by
  unfold rtail
  rw [if_neg hc]
  split <;> rename_i h1
  · rfl
  · rw [h] at h1; cases h1
theorem rtail_some {c : UInt8} (hc : c ≠ 10) {r w : Str} {c' : UInt8} {r' : Str} (h : cutW r = some (w, c', r')) : rtail c r = if pok w = true then (rtail c' r').map (fun x => (pd w :: x.1, x.2)) else none := by
  rw [rtail, if_neg hc]
  split <;> rename_i h1
  · rw [h] at h1; cases h1
  · rw [h] at h1
    simp only [Option.some.injEq, Prod.mk.injEq] at h1
    obtain ⟨rfl, rfl, rfl⟩ := h1
    rfl
theorem rtail_len : ∀ (n : Nat) {c : UInt8} {r : Str} {hs : List Str} {r' : Str}, r.length ≤ n → rtail c r = some (hs, r') → r'.length ≤ r.length
  | n, c, r, hs, r', hn, h => by
    by_cases hc : c = 10
    · subst hc
      rw [rtail_end] at h
      simp only [Option.some.injEq, Prod.mk.injEq] at h
      rw [h.2]; exact Nat.le_refl _
    · cases hq : cutW r with
      | none => rw [rtail_none hc hq] at h; cases h
      | some x =>
        obtain ⟨w, c', r1⟩ := x
        have hl := cutW_len hq
        rw [rtail_some hc hq] at h
        split at h
        · obtain ⟨⟨a, b⟩, h1, h2⟩ := Option.map_eq_some_iff.1 h
          simp only [Prod.mk.injEq] at h2
          obtain ⟨rfl, rfl⟩ := h2
          match n, hn with
          | 0, hn => omega
          | n + 1, hn =>
            have := rtail_len n (by omega) h1
            omega
        · cases h
/-- A text as a table. -/
def rtab (s : Str) : Option Tab :=
  match _h : cutW s with
  | none => if s = [] then some [] else none
  | some (n, c, r) =>
    match _h2 : rtail c r with
    | none => none
    | some (hs, r') => (rtab r').map fun T => ⟨n, hs⟩ :: T
termination_by s.length
decreasing_by have := cutW_len _h; have := rtail_len _ (Nat.le_refl _) _h2; omega
theorem rtab_nil : rtab [] = some [] := by
  unfold rtab; rfl
theorem rtab_none {s : Str} (hs : s ≠ []) (h : cutW s = none) : rtab s = none := by
  unfold rtab
  split <;> rename_i h1
  · rw [if_neg hs]
  · rw [h] at h1; cases h1
theorem rtab_some {s n : Str} {c : UInt8} {r : Str} (h : cutW s = some (n, c, r)) : rtab s = match rtail c r with | none => none | some (hs, r') => (rtab r').map fun T => ⟨n, hs⟩ :: T := by
  rw [rtab]
  split <;> rename_i h1
  · rw [h] at h1; cases h1
  · rw [h] at h1
    simp only [Option.some.injEq, Prod.mk.injEq] at h1
    obtain ⟨rfl, rfl, rfl⟩ := h1
    split <;> rename_i h2
    · rw [h2]
    · rw [h2]
theorem isSep_cases {c : UInt8} (h : isSep c = true) : c = 32 ∨ c = 10 := by
  simpa [isSep] using h
theorem rtail_text : ∀ (n : Nat) {c : UInt8} {r : Str} {hs : List Str} {r' : Str}, r.length ≤ n → isSep c = true → rtail c r = some (hs, r') → c :: r = lineH hs ++ 10 :: r' ∧ hOk hs
  | n, c, r, hs, r', hn, hsep, h => by
    by_cases hc : c = 10
    · subst hc
      rw [rtail_end] at h
      simp only [Option.some.injEq, Prod.mk.injEq] at h
      obtain ⟨rfl, rfl⟩ := h
      exact ⟨rfl, fun d hd => by cases hd⟩
    · have hc32 : c = 32 := (isSep_cases hsep).resolve_right hc
      cases hq : cutW r with
      | none => rw [rtail_none hc hq] at h; cases h
      | some x =>
        obtain ⟨w, c', r1⟩ := x
        have hl := cutW_len hq
        obtain ⟨q1, q2, q3⟩ := cutW_some hq
        rw [rtail_some hc hq] at h
        split at h <;> rename_i hp
        · obtain ⟨⟨a, b⟩, h1, h2⟩ := Option.map_eq_some_iff.1 h
          simp only [Prod.mk.injEq] at h2
          obtain ⟨rfl, rfl⟩ := h2
          match n, hn with
          | 0, hn => omega
          | n + 1, hn =>
            obtain ⟨g1, g2⟩ := rtail_text n (by omega) q2 h1
            refine ⟨?_, fun d hd => ?_⟩
            · rw [hc32, q1, g1]
              show _ = (32 :: hexOf (pd w) ++ lineH a) ++ _
              rw [hexOf_pd w hp]
              simp
            · rcases List.mem_cons.1 hd with rfl | hd
              · exact pd_length w
              · exact g2 d hd
        · cases h
theorem rtab_text : ∀ (n : Nat) {s : Str} {T : Tab}, s.length ≤ n → rtab s = some T → s = printS T ∧ tOk T
  | n, s, T, hn, h => by
    cases hq : cutW s with
    | none =>
      by_cases hs : s = []
      · subst hs
        rw [rtab_nil] at h
        simp only [Option.some.injEq] at h
        subst h
        exact ⟨rfl, fun b hb => by cases hb⟩
      · rw [rtab_none hs hq] at h; cases h
    | some x =>
      obtain ⟨nm, c, r⟩ := x
      have hl := cutW_len hq
      obtain ⟨q1, q2, q3⟩ := cutW_some hq
      rw [rtab_some hq] at h
      cases ht : rtail c r with
      | none => rw [ht] at h; cases h
      | some y =>
        obtain ⟨hs, r'⟩ := y
        rw [ht] at h
        obtain ⟨T', h1, rfl⟩ := Option.map_eq_some_iff.1 h
        have hl2 := rtail_len _ (Nat.le_refl _) ht
        obtain ⟨g1, g2⟩ := rtail_text _ (Nat.le_refl _) q2 ht
        match n, hn with
        | 0, hn => omega
        | n + 1, hn =>
          obtain ⟨k1, k2⟩ := rtab_text n (by omega) h1
          refine ⟨?_, fun b hb => ?_⟩
          · rw [q1, g1, k1]
            show _ = (nm ++ lineH hs ++ [10]) ++ printS T'
            simp
          · rcases List.mem_cons.1 hb with rfl | hb
            · exact g2
            · exact k2 b hb
theorem plain_sep {s : Str} (h : plainW s) : ∀ x ∈ s, isSep x = false := fun x hx => by
  have := h x hx
  simp [isSep, this.1, this.2]
theorem rtail_line : ∀ (hs : List Str) (r : Str), hOk hs → ∃ c q, lineH hs ++ 10 :: r = c :: q ∧ isSep c = true ∧ rtail c q = some (hs, r)
  | [], r, _ => ⟨10, r, rfl, rfl, rtail_end r⟩
  | d :: hs, r, h => by
    obtain ⟨c, q, e, hc, ht⟩ := rtail_line hs r (fun x hx => h x (by simp [hx]))
    have hd := h d (by simp)
    refine ⟨32, hexOf d ++ (lineH hs ++ 10 :: r), ?_, rfl, ?_⟩
    · show (32 :: hexOf d ++ lineH hs) ++ _ = _
      simp
    · rw [e, rtail_some (by decide) (cutW_of q (plain_sep (hex_plain d)) hc), (pd_hexOf d hd).1, if_pos rfl, ht, (pd_hexOf d hd).2]
      rfl
theorem rtab_print : ∀ (T : Tab), (∀ b ∈ T, nmOk b.name = true) → tOk T → rtab (printS T) = some T
  | [], _, _ => rtab_nil
  | b :: T, h, ho => by
    obtain ⟨c, q, e, hc, ht⟩ := rtail_line b.heads (printS T) (ho b (by simp))
    have e2 : printS (b :: T) = b.name ++ c :: q := by
      rw [← e]
      show (b.name ++ lineH b.heads ++ [10]) ++ printS T = _
      simp
    rw [e2, rtab_some (cutW_of q (plain_sep (nmOk_plain (h b (by simp)))) hc), ht]
    dsimp only
    rw [rtab_print T (fun x hx => h x (by simp [hx])) (fun x hx => ho x (by simp [hx]))]
    rfl
/-- What both make of a text. -/
theorem rtab_yes {s : Str} (h : parseOk s = true) : rtab s = some (looseT s) ∧ mayE (looseT s) = 0 := by
  unfold parseOk at h
  simp only [Bool.and_eq_true, decide_eq_true_eq] at h
  obtain ⟨⟨_, h2⟩, h3⟩ := h
  have ht : tOk (looseT s) := fun b hb => by
    obtain ⟨x, hx, rfl⟩ := List.mem_map.1 hb
    intro d hd
    obtain ⟨y, _, rfl⟩ := List.mem_map.1 hd
    exact pd_length y
  refine ⟨?_, h2⟩
  have := rtab_print (looseT s) (fun b hb => (((mayE_zero _).1 h2).2.1 b hb).1) ht
  rwa [h3] at this
theorem rtab_no {s : Str} (h : parseOk s = false) {T : Tab} (ht : rtab s = some T) : mayE T ≠ 0 := fun hm => by
  obtain ⟨h1, h2⟩ := rtab_text _ (Nat.le_refl _) ht
  have := (parse_print hm h2).1
  rw [← h1, h] at this
  cases this
end Go.Proofs.YtlenmkemjaaaoaaDoor
