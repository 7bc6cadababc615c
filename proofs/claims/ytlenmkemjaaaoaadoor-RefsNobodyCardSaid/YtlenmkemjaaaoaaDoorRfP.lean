/- Tables of names in plain words: what is wrong with one, its text, how a text is read, what changes do. -/
import Derived.Test.YtlenmkemjaaaoaaDoorBackS
import Derived.Test.YtlenmkemjaaaoaaDoorLess
namespace Go.Proofs.YtlenmkemjaaaoaaDoor

abbrev Str := List UInt8
/-- A branch: a name, and heads. -/
structure Br where
  name : Str
  heads : List Str
abbrev Tab := List Br
/-- A change. -/
structure Chg where
  name : Str
  old : List Str
  new : List Str
def isLet (c : UInt8) : Bool := (65 ≤ c && c ≤ 90) || (97 ≤ c && c ≤ 122) || (48 ≤ c && c ≤ 57) || c == 45 || c == 95 || c == 46 || c == 35 || c == 64 || c == 126
def nmOk (s : Str) : Bool := s.all isLet && decide (1 ≤ s.length) && decide (s.length ≤ 24)
def rises : List Str → Bool
  | a :: b :: r => lessS a b && rises (b :: r)
  | _ => true
def headsE (l : List Str) : Int := if 8 < l.length then 4 else if rises l then 0 else 7
def preOk : Option Str → Str → Bool
  | none, _ => true
  | some p, n => lessS p n
def mayF : Option Str → Tab → Int
  | _, [] => 0
  | p, b :: r => if nmOk b.name then (if preOk p b.name then (if b.heads = [] then 5 else if headsE b.heads = 0 then mayF (some b.name) r else headsE b.heads) else 7) else 11
def mayE (l : Tab) : Int := if 32 < l.length then 4 else mayF none l
def lineH (l : List Str) : Str := l.flatMap fun d => 32 :: hexOf d
def lineS (b : Br) : Str := b.name ++ lineH b.heads ++ [10]
def printS (l : Tab) : Str := l.flatMap lineS
/-- Each head is a digest. -/
def hOk (l : List Str) : Prop := ∀ d ∈ l, d.length = 32
def tOk (l : Tab) : Prop := ∀ b ∈ l, hOk b.heads
def cOk (l : List Chg) : Prop := ∀ c ∈ l, hOk c.old ∧ hOk c.new

/-! ### order -/
theorem lessS_irr (a : Str) : lessS a a = false := lessS_self a
theorem lessS_cons (x y : UInt8) (a b : Str) : lessS (x :: a) (y :: b) = (decide (x < y) || (x == y && lessS a b)) := by
  unfold lessS
  rw [Op.bytesLess]
theorem lessS_nil (a : Str) : lessS a [] = false := by cases a <;> rfl
theorem lessS_trans : ∀ (a b c : Str), lessS a b = true → lessS b c = true → lessS a c = true
  | [], [], _, h, _ => by cases h
  | [], _ :: _, [], _, h => by cases h
  | [], _ :: _, _ :: _, _, _ => rfl
  | _ :: _, [], _, h, _ => by cases h
  | _ :: _, _ :: _, [], _, h => by cases h
  | x :: a, y :: b, z :: c, h1, h2 => by
    rw [lessS_cons] at h1 h2 ⊢
    simp only [Bool.or_eq_true, decide_eq_true_eq, Bool.and_eq_true, beq_iff_eq] at h1 h2 ⊢
    rcases h1 with h1 | ⟨rfl, h1⟩
    · rcases h2 with h2 | ⟨rfl, _⟩
      · exact .inl (UInt8.lt_trans h1 h2)
      · exact .inl h1
    · rcases h2 with h2 | ⟨rfl, h2⟩
      · exact .inl h2
      · exact .inr ⟨rfl, lessS_trans a b c h1 h2⟩
theorem lessS_asym (a b : Str) (h : lessS a b = true) : lessS b a = false := by
  cases hb : lessS b a with
  | false => rfl
  | true => have := lessS_trans _ _ _ h hb; rw [lessS_irr] at this; cases this
theorem lessS_total : ∀ (a b : Str), lessS a b = false → lessS b a = false → a = b
  | [], [], _, _ => rfl
  | [], _ :: _, h, _ => by cases h
  | _ :: _, [], _, h => by cases h
  | x :: a, y :: b, h1, h2 => by
    rw [lessS_cons] at h1 h2
    simp only [Bool.or_eq_false_iff, decide_eq_false_iff_not, Bool.and_eq_false_imp, beq_iff_eq] at h1 h2
    have hxy : x = y := by
      have g1 := h1.1
      have g2 := h2.1
      rw [UInt8.lt_iff_toNat_lt] at g1 g2
      exact UInt8.toNat_inj.1 (by omega)
    subst hxy
    rw [lessS_total a b (h1.2 rfl) (h2.2 rfl)]
theorem lessS_ne {a b : Str} (h : lessS a b = true) : a ≠ b := fun e => by rw [e, lessS_irr] at h; cases h

/-! ### letters -/
theorem isLet_no : ∀ n : Fin 256, isLet (UInt8.ofNat n.1) = true → (UInt8.ofNat n.1 ≠ 32 ∧ UInt8.ofNat n.1 ≠ 10) := by decide +kernel
theorem isLet_blank {c : UInt8} (h : isLet c = true) : c ≠ 32 ∧ c ≠ 10 := by
  have := isLet_no ⟨c.toNat, c.toNat_lt⟩
  simp only [UInt8.ofNat_toNat] at this
  exact this h
theorem hexD_no : ∀ n : Fin 16, (hexD n.1 ≠ 32 ∧ hexD n.1 ≠ 10) := by decide +kernel
/-- No blank and no line's end. -/
def plainW (s : Str) : Prop := ∀ c ∈ s, c ≠ 32 ∧ c ≠ 10
theorem nmOk_plain {s : Str} (h : nmOk s = true) : plainW s := fun c hc => by
  simp only [nmOk, Bool.and_eq_true, List.all_eq_true] at h
  exact isLet_blank (h.1.1 c hc)
theorem hex_plain (d : Str) : plainW (hexOf d) := fun c hc => by
  unfold hexOf at hc
  obtain ⟨x, _, hx⟩ := List.mem_flatMap.1 hc
  have hl := x.toNat_lt
  simp only [List.mem_cons, List.not_mem_nil, or_false] at hx
  rcases hx with rfl | rfl
  · exact hexD_no ⟨x.toNat / 16, by omega⟩
  · exact hexD_no ⟨x.toNat % 16, by omega⟩

/-! ### a table that may be -/
theorem mayF_cons {p : Option Str} {b : Br} {r : Tab} (h : mayF p (b :: r) = 0) : nmOk b.name = true ∧ preOk p b.name = true ∧ b.heads ≠ [] ∧ headsE b.heads = 0 ∧ mayF (some b.name) r = 0 := by
  simp only [mayF] at h
  split at h <;> rename_i h1
  · split at h <;> rename_i h2
    · split at h <;> rename_i h3
      · cases h
      · split at h <;> rename_i h4
        · exact ⟨h1, h2, h3, h4, h⟩
        · exact absurd h h4
    · cases h
  · cases h
theorem headsE_cases (l : List Str) : headsE l = 0 ∨ headsE l = 4 ∨ headsE l = 7 := by
  unfold headsE
  split
  · exact .inr (.inl rfl)
  · split
    · exact .inl rfl
    · exact .inr (.inr rfl)
/-- Names rise. -/
def sorted (l : Tab) : Prop := l.Pairwise fun a b => lessS a.name b.name = true
/-- Each branch may be. -/
def bOk (b : Br) : Prop := nmOk b.name = true ∧ b.heads ≠ [] ∧ headsE b.heads = 0
theorem mayF_zero : ∀ (l : Tab) (p : Option Str), mayF p l = 0 ↔ ((∀ b ∈ l, bOk b) ∧ sorted l ∧ ∀ q, p = some q → ∀ b ∈ l, lessS q b.name = true)
  | [], p => by simp [mayF, sorted]
  | b :: r, p => by
    constructor
    · intro h
      obtain ⟨h1, h2, h3, h4, h5⟩ := mayF_cons h
      obtain ⟨g1, g2, g3⟩ := (mayF_zero r _).1 h5
      refine ⟨fun x hx => ?_, List.pairwise_cons.2 ⟨fun x hx => g3 _ rfl x hx, g2⟩, fun q hq x hx => ?_⟩
      · rcases List.mem_cons.1 hx with rfl | hx
        · exact ⟨h1, h3, h4⟩
        · exact g1 x hx
      · subst hq
        rcases List.mem_cons.1 hx with rfl | hx
        · exact h2
        · exact lessS_trans _ _ _ h2 (g3 _ rfl x hx)
    · rintro ⟨h1, h2, h3⟩
      obtain ⟨g1, g2⟩ := List.pairwise_cons.1 h2
      obtain ⟨k1, k2, k3⟩ := h1 b (by simp)
      have hp : preOk p b.name = true := by
        cases p with
        | none => rfl
        | some q => exact h3 q rfl b (by simp)
      simp only [mayF]
      rw [if_pos k1, if_pos hp, if_neg k2, if_pos k3]
      exact (mayF_zero r _).2 ⟨fun x hx => h1 x (by simp [hx]), g2, fun q hq x hx => by cases hq; exact g1 x hx⟩
theorem mayE_zero (l : Tab) : mayE l = 0 ↔ (l.length ≤ 32 ∧ (∀ b ∈ l, bOk b) ∧ sorted l) := by
  unfold mayE
  split
  · constructor
    · intro h; cases h
    · rintro ⟨h, _⟩; omega
  · rw [mayF_zero]
    constructor
    · rintro ⟨h1, h2, _⟩; exact ⟨by omega, h1, h2⟩
    · rintro ⟨_, h1, h2⟩; exact ⟨h1, h2, by simp⟩

/-! ### a name's heads; changes -/
def getT (l : Tab) (n : Str) : List Str := match l.find? (fun b => b.name == n) with | some b => b.heads | none => []
def posT (l : Tab) (n : Str) : Nat := (l.takeWhile fun b => lessS b.name n).length
def hasT (l : Tab) (n : Str) : Bool := l.any fun b => b.name == n
def putG (n : Str) (h : List Str) : Bool → Tab → Tab
  | done, [] => if done then [] else [⟨n, h⟩]
  | done, b :: r => if done = false ∧ lessS n b.name = true then ⟨n, h⟩ :: ((if b.name = n then [] else [b]) ++ putG n h true r) else (if b.name = n then [] else [b]) ++ putG n h done r
def putT (l : Tab) (n : Str) (h : List Str) : Tab := putG n h (decide (h = [])) l
def wrongE (l : Tab) (ahead : List Chg) (c : Chg) : Int :=
  if nmOk c.name then (if ahead.any (fun x => x.name == c.name) then 6 else if headsE c.new = 0 then (if getT l c.name = c.old then 0 else 12) else headsE c.new) else 11
def wrongsE (l : Tab) : List Chg → List Chg → Int
  | _, [] => 0
  | ahead, c :: r => if wrongE l ahead c = 0 then wrongsE l (ahead ++ [c]) r else wrongE l ahead c
def putsT (l : Tab) (c : List Chg) : Tab := c.foldl (fun l x => putT l x.name x.new) l
def applyE (l : Tab) (c : List Chg) : Int :=
  if mayE l = 0 then (if 32 < c.length then 4 else if wrongsE l [] c = 0 then (if 32 < (putsT l c).length then 4 else 0) else wrongsE l [] c) else mayE l
def applyT (l : Tab) (c : List Chg) : Tab := if applyE l c = 0 then putsT l c else []
end Go.Proofs.YtlenmkemjaaaoaaDoor
