/- Joined: RfP, RfM, RfH, RfR. -/
import Derived.Test.YtlenmkemjaaaoaaDoorDg
import Derived.Test.YtlenmkemjaaaoaaDoorDkPW
import Derived.Test.YtlenmkemjaaaoaaDoorBa
import Derived.Deep.QuietTactic
import Derived.LoopTactic
import Derived.IntWalk
section
/- Tables of names in plain words: what is wrong with one, its text, how a text is read, what changes do. -/
namespace Go.Proofs.YtlenmkemjaaaoaaDoor

abbrev Str := List UInt8
/-- A branch: a name, and heads. -/
structure Br where
  name : Str
  heads : List Str
abbrev Tab := List Br
/-- A change. -/
structure Chg where
  name : Str
  old : List Str
  new : List Str
def isLet (c : UInt8) : Bool := (65 ≤ c && c ≤ 90) || (97 ≤ c && c ≤ 122) || (48 ≤ c && c ≤ 57) || c == 45 || c == 95 || c == 46 || c == 35 || c == 64 || c == 126
def nmOk (s : Str) : Bool := s.all isLet && decide (1 ≤ s.length) && decide (s.length ≤ 24)
def rises : List Str → Bool
  | a :: b :: r => lessS a b && rises (b :: r)
  | _ => true
def headsE (l : List Str) : Int := if 8 < l.length then 4 else if rises l then 0 else 7
def preOk : Option Str → Str → Bool
  | none, _ => true
  | some p, n => lessS p n
def mayF : Option Str → Tab → Int
  | _, [] => 0
  | p, b :: r => if nmOk b.name then (if preOk p b.name then (if b.heads = [] then 5 else if headsE b.heads = 0 then mayF (some b.name) r else headsE b.heads) else 7) else 11
def mayE (l : Tab) : Int := if 32 < l.length then 4 else mayF none l
def lineH (l : List Str) : Str := l.flatMap fun d => 32 :: hexOf d
def lineS (b : Br) : Str := b.name ++ lineH b.heads ++ [10]
def printS (l : Tab) : Str := l.flatMap lineS
/-- Each head is a digest. -/
def hOk (l : List Str) : Prop := ∀ d ∈ l, d.length = 32
def tOk (l : Tab) : Prop := ∀ b ∈ l, hOk b.heads
def cOk (l : List Chg) : Prop := ∀ c ∈ l, hOk c.old ∧ hOk c.new

/-! ### order -/
theorem lessS_irr (a : Str) : lessS a a = false := lessS_self a
theorem lessS_cons (x y : UInt8) (a b : Str) : lessS (x :: a) (y :: b) = (decide (x < y) || (x == y && lessS a b)) := by
  unfold lessS
  rw [Op.bytesLess]
theorem lessS_nil (a : Str) : lessS a [] = false := by cases a <;> rfl
theorem lessS_trans : ∀ (a b c : Str), lessS a b = true → lessS b c = true → lessS a c = true
  | [], [], _, h, _ => by cases h
  | [], _ :: _, [], _, h => by cases h
  | [], _ :: _, _ :: _, _, _ => rfl
  | _ :: _, [], _, h, _ => by cases h
  | _ :: _, _ :: _, [], _, h => by cases h
  | x :: a, y :: b, z :: c, h1, h2 => by
    rw [lessS_cons] at h1 h2 ⊢
    simp only [Bool.or_eq_true, decide_eq_true_eq, Bool.and_eq_true, beq_iff_eq] at h1 h2 ⊢
    rcases h1 with h1 | ⟨rfl, h1⟩
    · rcases h2 with h2 | ⟨rfl, _⟩
      · exact .inl (UInt8.lt_trans h1 h2)
      · exact .inl h1
    · rcases h2 with h2 | ⟨rfl, h2⟩
      · exact .inl h2
      · exact .inr ⟨rfl, lessS_trans a b c h1 h2⟩
theorem lessS_asym (a b : Str) (h : lessS a b = true) : lessS b a = false := by
  cases hb : lessS b a with
  | false => rfl
  | true => have := lessS_trans _ _ _ h hb; rw [lessS_irr] at this; cases this
theorem lessS_total : ∀ (a b : Str), lessS a b = false → lessS b a = false → a = b
  | [], [], _, _ => rfl
  | [], _ :: _, h, _ => by cases h
  | _ :: _, [], _, h => by cases h
  | x :: a, y :: b, h1, h2 => by
    rw [lessS_cons] at h1 h2
    simp only [Bool.or_eq_false_iff, decide_eq_false_iff_not, Bool.and_eq_false_imp, beq_iff_eq] at h1 h2
    have hxy : x = y := by
      have g1 := h1.1
      have g2 := h2.1
      rw [UInt8.lt_iff_toNat_lt] at g1 g2
      exact UInt8.toNat_inj.1 (by omega)
    subst hxy
    rw [lessS_total a b (h1.2 rfl) (h2.2 rfl)]
theorem lessS_ne {a b : Str} (h : lessS a b = true) : a ≠ b := fun e => by rw [e, lessS_irr] at h; cases h

/-! ### letters -/
theorem isLet_no : ∀ n : Fin 256, isLet (UInt8.ofNat n.1) = true → (UInt8.ofNat n.1 ≠ 32 ∧ UInt8.ofNat n.1 ≠ 10) := by decide +kernel
theorem isLet_blank {c : UInt8} (h : isLet c = true) : c ≠ 32 ∧ c ≠ 10 := by
  have := isLet_no ⟨c.toNat, c.toNat_lt⟩
  simp only [UInt8.ofNat_toNat] at this
  exact this h
theorem hexD_no : ∀ n : Fin 16, (hexD n.1 ≠ 32 ∧ hexD n.1 ≠ 10) := by decide +kernel
/-- No blank and no line's end. -/
def plainW (s : Str) : Prop := ∀ c ∈ s, c ≠ 32 ∧ c ≠ 10
theorem nmOk_plain {s : Str} (h : nmOk s = true) : plainW s := fun c hc => by
  simp only [nmOk, Bool.and_eq_true, List.all_eq_true] at h
  exact isLet_blank (h.1.1 c hc)
theorem hex_plain (d : Str) : plainW (hexOf d) := fun c hc => by
  unfold hexOf at hc
  obtain ⟨x, _, hx⟩ := List.mem_flatMap.1 hc
  have hl := x.toNat_lt
  simp only [List.mem_cons, List.not_mem_nil, or_false] at hx
  rcases hx with rfl | rfl
  · exact hexD_no ⟨x.toNat / 16, by omega⟩
  · exact hexD_no ⟨x.toNat % 16, by omega⟩

/-! ### a table that may be -/
theorem mayF_cons {p : Option Str} {b : Br} {r : Tab} (h : mayF p (b :: r) = 0) : nmOk b.name = true ∧ preOk p b.name = true ∧ b.heads ≠ [] ∧ headsE b.heads = 0 ∧ mayF (some b.name) r = 0 := by
  simp only [mayF] at h
  split at h <;> rename_i h1
  · split at h <;> rename_i h2
    · split at h <;> rename_i h3
      · cases h
      · split at h <;> rename_i h4
        · exact ⟨h1, h2, h3, h4, h⟩
        · exact absurd h h4
    · cases h
  · cases h
theorem headsE_cases (l : List Str) : headsE l = 0 ∨ headsE l = 4 ∨ headsE l = 7 := by
  unfold headsE
  split
  · exact .inr (.inl rfl)
  · split
    · exact .inl rfl
    · exact .inr (.inr rfl)
/-- Names rise. -/
def sorted (l : Tab) : Prop := l.Pairwise fun a b => lessS a.name b.name = true
/-- Each branch may be. -/
def bOk (b : Br) : Prop := nmOk b.name = true ∧ b.heads ≠ [] ∧ headsE b.heads = 0
theorem mayF_zero : ∀ (l : Tab) (p : Option Str), mayF p l = 0 ↔ ((∀ b ∈ l, bOk b) ∧ sorted l ∧ ∀ q, p = some q → ∀ b ∈ l, lessS q b.name = true)
  | [], p => by simp [mayF, sorted]
  | b :: r, p => by
    constructor
    · intro h
      obtain ⟨h1, h2, h3, h4, h5⟩ := mayF_cons h
      obtain ⟨g1, g2, g3⟩ := (mayF_zero r _).1 h5
      refine ⟨fun x hx => ?_, List.pairwise_cons.2 ⟨fun x hx => g3 _ rfl x hx, g2⟩, fun q hq x hx => ?_⟩
      · rcases List.mem_cons.1 hx with rfl | hx
        · exact ⟨h1, h3, h4⟩
        · exact g1 x hx
      · subst hq
        rcases List.mem_cons.1 hx with rfl | hx
        · exact h2
        · exact lessS_trans _ _ _ h2 (g3 _ rfl x hx)
    · rintro ⟨h1, h2, h3⟩
      obtain ⟨g1, g2⟩ := List.pairwise_cons.1 h2
      obtain ⟨k1, k2, k3⟩ := h1 b (by simp)
      have hp : preOk p b.name = true := by
        cases p with
        | none => rfl
        | some q => exact h3 q rfl b (by simp)
      simp only [mayF]
      rw [if_pos k1, if_pos hp, if_neg k2, if_pos k3]
      exact (mayF_zero r _).2 ⟨fun x hx => h1 x (by simp [hx]), g2, fun q hq x hx => by cases hq; exact g1 x hx⟩
theorem mayE_zero (l : Tab) : mayE l = 0 ↔ (l.length ≤ 32 ∧ (∀ b ∈ l, bOk b) ∧ sorted l) := by
  unfold mayE
  split
  · constructor
    · intro h; cases h
    · rintro ⟨h, _⟩; omega
  · rw [mayF_zero]
    constructor
    · rintro ⟨h1, h2, _⟩; exact ⟨by omega, h1, h2⟩
    · rintro ⟨_, h1, h2⟩; exact ⟨h1, h2, by simp⟩

/-! ### a name's heads; changes -/
def getT (l : Tab) (n : Str) : List Str := match l.find? (fun b => b.name == n) with | some b => b.heads | none => []
def posT (l : Tab) (n : Str) : Nat := (l.takeWhile fun b => lessS b.name n).length
def hasT (l : Tab) (n : Str) : Bool := l.any fun b => b.name == n
def putG (n : Str) (h : List Str) : Bool → Tab → Tab
  | done, [] => if done then [] else [⟨n, h⟩]
  | done, b :: r => if done = false ∧ lessS n b.name = true then ⟨n, h⟩ :: ((if b.name = n then [] else [b]) ++ putG n h true r) else (if b.name = n then [] else [b]) ++ putG n h done r
def putT (l : Tab) (n : Str) (h : List Str) : Tab := putG n h (decide (h = [])) l
def wrongE (l : Tab) (ahead : List Chg) (c : Chg) : Int :=
  if nmOk c.name then (if ahead.any (fun x => x.name == c.name) then 6 else if headsE c.new = 0 then (if getT l c.name = c.old then 0 else 12) else headsE c.new) else 11
def wrongsE (l : Tab) : List Chg → List Chg → Int
  | _, [] => 0
  | ahead, c :: r => if wrongE l ahead c = 0 then wrongsE l (ahead ++ [c]) r else wrongE l ahead c
def putsT (l : Tab) (c : List Chg) : Tab := c.foldl (fun l x => putT l x.name x.new) l
def applyE (l : Tab) (c : List Chg) : Int :=
  if mayE l = 0 then (if 32 < c.length then 4 else if wrongsE l [] c = 0 then (if 32 < (putsT l c).length then 4 else 0) else wrongsE l [] c) else mayE l
def applyT (l : Tab) (c : List Chg) : Tab := if applyE l c = 0 then putsT l c else []
end Go.Proofs.YtlenmkemjaaaoaaDoor
end

section
/- Words for memory: lists of digests, tables, rows of changes; laws for loads out of them. -/
namespace Go.Proofs.YtlenmkemjaaaoaaDoor
open Go.RowKit
section
variable {P : Program}
theorem wpList_wanted {ops : Array Oper} {rest : List Oper} {o : Oper} {a : Act} {w : World} {Q : Exit → Act → World → Prop} (hw : Region.wanted o (yielded ops a.tmps) = true)
    (h : ∀ K : Act → World → Prop, (∀ a w, wpList P ops Q rest a w → K a w) → o.wp P a w K Q) : wpList P ops Q (o :: rest) a w :=
  wpList_step fun K hK => by rw [if_pos hw]; exact h K hK
theorem wpList_run_g {ops : Array Oper} {rest : List Oper} {o : Oper} {a : Act} {w : World} {Q : Exit → Act → World → Prop} (op : Op) (_ho : o.op = op) (hw : Region.wanted o (yielded ops a.tmps) = true) (v : Value)
    (hrun : (execOp a.eval o).run P w = .ok (.value v) w) (h : wpList P ops Q rest (a.put o.dst v) w) : wpList P ops Q (o :: rest) a w := by
  refine wpList_wanted hw fun _ hK => ?_
  unfold Oper.wp
  rw [hrun]
  exact hK _ _ h
theorem wpQuiet_run_g {ops : Array Oper} {rest : List Oper} {o : Oper} {a : Act} {C : World → Prop} {Q : Act → Prop} (op : Op) (_ho : o.op = op) (hw : Region.wanted o (yielded ops a.tmps) = true) (v : Value)
    (hrun : ∀ w, C w → (execOp a.eval o).run P w = .ok (.value v) w) (h : wpQuiet P ops C Q rest (a.put o.dst v)) : wpQuiet P ops C Q (o :: rest) a := by
  refine wpQuiet_step fun K hK => ?_
  rw [if_pos hw]
  exact ⟨v, fun w hC => by unfold Oper.quietAt; rw [hrun w hC]; exact ⟨rfl, rfl⟩, hK _ h⟩
/-- An aggregate is read where its cells are known. -/
theorem wpList_load_at {ops : Array Oper} {rest : List Oper} {op : Oper} {a : Act} {w : World} {Q : Exit → Act → World → Prop} (ty : TypeId) (x : Operand) (ho : op.op = .load ty x) (hw : Region.wanted op (yielded ops a.tmps) = true)
    (g o : Nat) (hx : a.eval x = .pointer (some ⟨g, o, none⟩)) (part : List Value) (hc : ∀ j v, part[j]? = some v → w.cell? ⟨g, o + j, none⟩ = some v) (d : TypeDesc)
    (hu : P.underlying ty = some d) (hd : d.isRow = true) (hi : (P.info? ty).map (·.size) = some part.length)
    (h : wpList P ops Q rest (a.put op.dst (.agg part.toArray)) w) : wpList P ops Q (op :: rest) a w := by
  refine wpList_run_g _ ho hw _ ?_ h
  unfold execOp
  simp only [ho, hx, Instr.loadAt, Instr.sureAddr, Sem.run_bind, Sem.run_pure, Result.andThen_ok, run_loadVar_mid w g o ty part d hc hu hd hi]
theorem wpQuiet_load_at {ops : Array Oper} {rest : List Oper} {op : Oper} {a : Act} {C : World → Prop} {Q : Act → Prop} (ty : TypeId) (x : Operand) (ho : op.op = .load ty x) (hw : Region.wanted op (yielded ops a.tmps) = true)
    (g o : Nat) (hx : a.eval x = .pointer (some ⟨g, o, none⟩)) (part : List Value) (hc : ∀ w, C w → ∀ j v, part[j]? = some v → w.cell? ⟨g, o + j, none⟩ = some v) (d : TypeDesc)
    (hu : P.underlying ty = some d) (hd : d.isRow = true) (hi : (P.info? ty).map (·.size) = some part.length)
    (h : wpQuiet P ops C Q rest (a.put op.dst (.agg part.toArray))) : wpQuiet P ops C Q (op :: rest) a := by
  refine wpQuiet_run_g _ ho hw _ (fun w hw => ?_) h
  unfold execOp
  simp only [ho, hx, Instr.loadAt, Instr.sureAddr, Sem.run_bind, Sem.run_pure, Result.andThen_ok, run_loadVar_mid w g o ty part d (hc w hw) hu hd hi]
theorem wpQuiet_neq_dig {ops : Array Oper} {rest : List Oper} {o : Oper} {a : Act} {C : World → Prop} {Q : Act → Prop} (x y : Operand) (yt : TypeId) (ho : o.op = .binOp .neq 57 x y yt) (hw : Region.wanted o (yielded ops a.tmps) = true)
    (xs ys : List UInt8) (hxe : a.eval x = .agg (xs.map B).toArray) (hye : a.eval y = .agg (ys.map B).toArray) (hx : xs.length = 32) (hy : ys.length = 32) (r : Bool) (hr : (!(xs == ys)) = r)
    (h : wpQuiet Tryd.prog ops C Q rest (a.put o.dst (.bool r))) : wpQuiet Tryd.prog ops C Q (o :: rest) a :=
  wpQuiet_run_g _ ho hw _ (fun w _ => by rw [exec_neq_dig w ho xs ys hxe hye hx hy, hr]) h
end

/-! ### cells that are read -/
section
variable {w w' : World} {ok ok' : Nat → Prop} {A : Option Addr} {xs : List Value}
theorem Rd.at (h : Rd w ok A xs) (hn : 0 < xs.length) : ∃ b o, A = some ⟨b, o, none⟩ ∧ ok b ∧ b < w.heap.size ∧ ∀ j u, xs[j]? = some u → w.cell? ⟨b, o + j, none⟩ = some u := by
  obtain ⟨⟨b, o, spot⟩, rfl, hb, hc⟩ := h hn
  have h0 := hc 0 xs[0] (List.getElem?_eq_getElem hn)
  have hs : spot = none := by simpa [Addr.add] using World.cell?_spot h0
  subst hs
  refine ⟨b, o, rfl, hb, World.block_lt_of_cell? _ _ (by simpa [Addr.add] using h0), fun j u hu => ?_⟩
  have := hc j u hu
  rwa [addr_add] at this
theorem Rd.stay (h : Rd w ok A xs) (hk : ∀ b, ok b → b < w.heap.size → w'.heap[b]? = w.heap[b]?) (ho : ∀ b, ok b → b < w.heap.size → ok' b) : Rd w' ok' A xs := fun hn => by
  obtain ⟨b, o, rfl, hb, hlt, hc⟩ := h.at hn
  refine ⟨_, rfl, ho b hb hlt, fun j u hu => ?_⟩
  rw [addr_add, World.cell?_of_block (hk b hb hlt)]
  exact hc j u hu
theorem Rd.stayB (h : Rd w ok A xs) (hb : Below w.heap.size w w') : Rd w' ok A xs := h.stay (fun b _ hlt => hb.block b hlt) (fun _ h _ => h)
end

/-- The cells of a list of digests. -/
def hCells (l : List Str) : List Value := l.flatMap fun d => d.map B
theorem hCells_cons (d : Str) (l : List Str) : hCells (d :: l) = d.map B ++ hCells l := by simp [hCells]
theorem hCells_snoc (l : List Str) (d : Str) : hCells (l ++ [d]) = hCells l ++ d.map B := by simp [hCells]
theorem hCells_len : ∀ {l : List Str}, hOk l → (hCells l).length = l.length * 32
  | [], _ => rfl
  | d :: l, h => by
    rw [hCells_cons, List.length_append, hCells_len (l := l) (fun x hx => h x (by simp [hx])), List.length_map, h d (by simp), List.length_cons]
    omega
theorem hCells_at : ∀ {l : List Str}, hOk l → ∀ (k : Nat) (hk : k < l.length) (j : Nat) v, (l[k].map B)[j]? = some v → (hCells l)[k * 32 + j]? = some v
  | d :: l, h, 0, hk, j, v, hv => by
    rw [hCells_cons, List.getElem?_append_left (by have := (List.getElem?_eq_some_iff.1 hv).1; simpa using this)]
    simpa using hv
  | d :: l, h, k + 1, hk, j, v, hv => by
    have hd : (d.map B).length = 32 := by rw [List.length_map]; exact h d (by simp)
    rw [hCells_cons, List.getElem?_append_right (by omega), hd, show (k + 1) * 32 + j - 32 = k * 32 + j by omega]
    exact hCells_at (l := l) (fun x hx => h x (by simp [hx])) k (by simpa using hk) j v (by simpa using hv)
theorem hCells_one (l : List Str) : ∀ v ∈ hCells l, v.oneCell' = true := by
  intro v hv
  unfold hCells at hv
  obtain ⟨d, _, hd⟩ := List.mem_flatMap.1 hv
  obtain ⟨x, _, rfl⟩ := List.mem_map.1 hd
  rfl
/-- The value v is a slice of digests that reads as l. -/
def HdIs (w : World) (ok : Nat → Prop) (v : Value) (l : List Str) : Prop := ∃ A c, v = .slice A l.length c ∧ l.length ≤ c ∧ Rd w ok A (hCells l)
structure HFit (l : List Str) : Prop where
  len : l.length ≤ 4398046511104
  ok : hOk l
section
variable {w w' : World} {ok ok' : Nat → Prop} {v : Value} {l : List Str}
theorem HdIs.stay (h : HdIs w ok v l) (hk : ∀ b, ok b → b < w.heap.size → w'.heap[b]? = w.heap[b]?) (ho : ∀ b, ok b → b < w.heap.size → ok' b) : HdIs w' ok' v l := by
  obtain ⟨A, c, e, hc, hr⟩ := h
  exact ⟨A, c, e, hc, hr.stay hk ho⟩
theorem HdIs.stayB (h : HdIs w ok v l) (hb : Below w.heap.size w w') : HdIs w' ok v l := h.stay (fun b _ hlt => hb.block b hlt) (fun _ h _ => h)
/-- The k-th digest's cells. -/
theorem HdIs.dig {A : Option Addr} {n c : Nat} (h : HdIs w ok (.slice A n c) l) (ho : hOk l) (k : Nat) (hk : k < l.length) : ∃ b o, A = some ⟨b, o, none⟩ ∧ ok b ∧ b < w.heap.size ∧ ∀ j v, (l[k].map B)[j]? = some v → w.cell? ⟨b, o + k * 32 + j, none⟩ = some v := by
  obtain ⟨A', c', e, hc, hr⟩ := h
  injection e with e1 e2 e3
  subst e1
  obtain ⟨b, o, rfl, hb, hlt, hcell⟩ := hr.at (by rw [hCells_len ho]; omega)
  exact ⟨b, o, rfl, hb, hlt, fun j v hv => by rw [Nat.add_assoc]; exact hcell _ v (hCells_at ho k hk j v hv)⟩
end

/-- The cells of a table: names, and slices of digests. -/
def tCells : Tab → List Value → List Value
  | b :: T, v :: vs => strV b.name :: v :: tCells T vs
  | _, _ => []
theorem tCells_len : ∀ (T : Tab) (vs : List Value), vs.length = T.length → (tCells T vs).length = T.length * 2
  | [], _, _ => by simp [tCells]
  | b :: T, [], h => by simp at h
  | b :: T, v :: vs, h => by
    simp only [tCells, List.length_cons, tCells_len T vs (by simpa using h)]
    omega
theorem tCells_at : ∀ (T : Tab) (vs : List Value), vs.length = T.length → ∀ k b v, T[k]? = some b → vs[k]? = some v → (tCells T vs)[k * 2]? = some (strV b.name) ∧ (tCells T vs)[k * 2 + 1]? = some v
  | [], _, _, k, b, v, h, _ => by simp at h
  | b :: T, [], h, _, _, _, _, _ => by simp at h
  | b :: T, v :: vs, h, 0, b', v', h1, h2 => by
    simp only [List.getElem?_cons_zero, Option.some.injEq] at h1 h2
    subst h1; subst h2
    simp [tCells]
  | b :: T, v :: vs, h, k + 1, b', v', h1, h2 => by
    have := tCells_at T vs (by simpa using h) k b' v' (by simpa using h1) (by simpa using h2)
    rw [show (k + 1) * 2 = k * 2 + 1 + 1 by omega]
    simpa [tCells] using this
theorem tCells_app : ∀ (T : Tab) (vs : List Value), vs.length = T.length → ∀ T' vs', tCells (T ++ T') (vs ++ vs') = tCells T vs ++ tCells T' vs'
  | [], [], _, _, _ => rfl
  | [], _ :: _, h, _, _ => by simp at h
  | b :: T, [], h, _, _ => by simp at h
  | b :: T, v :: vs, h, T', vs' => by simp [tCells, tCells_app T vs (by simpa using h) T' vs']
/-- The value v is a slice of branches that reads as T; what lies there lies in blocks of which 'ok' holds. -/
def TabIs (w : World) (ok : Nat → Prop) (v : Value) (T : Tab) : Prop := ∃ A c vs, vs.length = T.length ∧ v = .slice A T.length c ∧ T.length ≤ c ∧ Rd w ok A (tCells T vs) ∧ ∀ (k : Nat) b u, T[k]? = some b → vs[k]? = some u → HdIs w ok u b.heads
structure BFit (b : Br) : Prop where
  name : b.name.length ≤ 140737488355328
  heads : HFit b.heads
structure TFit (T : Tab) : Prop where
  len : T.length ≤ 3518437208832
  ok : ∀ b ∈ T, BFit b
section
variable {w w' : World} {ok ok' : Nat → Prop} {v : Value} {T : Tab}
theorem TabIs.stay (h : TabIs w ok v T) (hk : ∀ b, ok b → b < w.heap.size → w'.heap[b]? = w.heap[b]?) (ho : ∀ b, ok b → b < w.heap.size → ok' b) : TabIs w' ok' v T := by
  obtain ⟨A, c, vs, hl, e, hc, hr, hh⟩ := h
  exact ⟨A, c, vs, hl, e, hc, hr.stay hk ho, fun k b u h1 h2 => (hh k b u h1 h2).stay hk ho⟩
theorem TabIs.stayB (h : TabIs w ok v T) (hb : Below w.heap.size w w') : TabIs w' ok v T := h.stay (fun b _ hlt => hb.block b hlt) (fun _ h _ => h)
theorem TabIs.form (h : TabIs w ok v T) : ∃ A c, v = .slice A T.length c ∧ T.length ≤ c := by
  obtain ⟨A, c, vs, hl, e, hc, _⟩ := h
  exact ⟨A, c, e, hc⟩
theorem TabIs.nil : TabIs w ok (.slice none 0 0) [] := ⟨none, 0, [], rfl, rfl, Nat.le_refl _, Rd.nil, fun k b u h _ => by simp at h⟩
theorem HdIs.nil : HdIs w ok (.slice none 0 0) [] := ⟨none, 0, rfl, Nat.le_refl _, Rd.nil⟩
/-- The k-th branch's two cells. -/
theorem TabIs.br {A : Option Addr} {n c : Nat} (h : TabIs w ok (.slice A n c) T) (k : Nat) (hk : k < T.length) : ∃ b o u, A = some ⟨b, o, none⟩ ∧ ok b ∧ b < w.heap.size ∧ HdIs w ok u T[k].heads ∧ w.cell? ⟨b, o + k * 2, none⟩ = some (strV T[k].name) ∧ w.cell? ⟨b, o + k * 2 + 1, none⟩ = some u := by
  obtain ⟨A', c', vs, hl, e, hc, hr, hh⟩ := h
  injection e with e1 e2 e3
  subst e1
  obtain ⟨b, o, rfl, hb, hlt, hcell⟩ := hr.at (by rw [tCells_len T vs hl]; omega)
  have hv : vs[k]? = some vs[k] := List.getElem?_eq_getElem (by omega)
  have hT : T[k]? = some T[k] := List.getElem?_eq_getElem hk
  obtain ⟨h1, h2⟩ := tCells_at T vs hl k _ _ hT hv
  exact ⟨b, o, vs[k], rfl, hb, hlt, hh k _ _ hT hv, hcell _ _ h1, by have := hcell _ _ h2; rwa [← Nat.add_assoc] at this⟩
end
section
variable {w w' : World} {ok : Nat → Prop} {v : Value}
theorem HdIs.ltB {l : List Str} (h : HdIs w ok v l) : HdIs w (· < w.heap.size) v l := h.stay (fun _ _ _ => rfl) (fun _ _ hlt => hlt)
theorem TabIs.ltB {T : Tab} (h : TabIs w ok v T) : TabIs w (· < w.heap.size) v T := h.stay (fun _ _ _ => rfl) (fun _ _ hlt => hlt)
theorem HdIs.low {B : Nat} {l : List Str} (h : HdIs w (· < B) v l) (hb : Below B w w') : HdIs w' (· < B) v l := h.stay (fun b hlt _ => hb.block b hlt) (fun _ h _ => h)
theorem TabIs.low {B : Nat} {T : Tab} (h : TabIs w (· < B) v T) (hb : Below B w w') : TabIs w' (· < B) v T := h.stay (fun b hlt _ => hb.block b hlt) (fun _ h _ => h)
theorem HdIs.weakB {B B' : Nat} {l : List Str} (h : HdIs w (· < B) v l) (hB : B ≤ B') : HdIs w (· < B') v l := h.stay (fun _ _ _ => rfl) (fun _ h _ => Nat.lt_of_lt_of_le h hB)
end
theorem two_cells {w : World} {b o : Nat} {x y : Value} (h1 : w.cell? ⟨b, o, none⟩ = some x) (h2 : w.cell? ⟨b, o + 1, none⟩ = some y) : ∀ j v, [x, y][j]? = some v → w.cell? ⟨b, o + j, none⟩ = some v := by
  intro j v hv
  match j, hv with
  | 0, hv => simp only [List.getElem?_cons_zero, Option.some.injEq] at hv; subst hv; exact h1
  | 1, hv => simp only [List.getElem?_cons_succ, List.getElem?_cons_zero, Option.some.injEq] at hv; subst hv; exact h2

/-! ### changes -/
def cCells : List Chg → List (Value × Value) → List Value
  | c :: C, v :: vs => strV c.name :: v.1 :: v.2 :: cCells C vs
  | _, _ => []
theorem cCells_len : ∀ (C : List Chg) (vs : List (Value × Value)), vs.length = C.length → (cCells C vs).length = C.length * 3
  | [], _, _ => by simp [cCells]
  | b :: T, [], h => by simp at h
  | b :: T, v :: vs, h => by
    simp only [cCells, List.length_cons, cCells_len T vs (by simpa using h)]
    omega
theorem cCells_at : ∀ (C : List Chg) (vs : List (Value × Value)), vs.length = C.length → ∀ k b v, C[k]? = some b → vs[k]? = some v → ∀ j u, [strV b.name, v.1, v.2][j]? = some u → (cCells C vs)[k * 3 + j]? = some u
  | [], _, _, k, b, v, h, _ => by simp at h
  | b :: T, [], h, _, _, _, _, _ => by simp at h
  | b :: T, v :: vs, h, 0, b', v', h1, h2 => by
    simp only [List.getElem?_cons_zero, Option.some.injEq] at h1 h2
    subst h1; subst h2
    intro j u hu
    match j, hu with
    | 0, hu => simpa [cCells] using hu
    | 1, hu => simpa [cCells] using hu
    | 2, hu => simpa [cCells] using hu
  | b :: T, v :: vs, h, k + 1, b', v', h1, h2 => by
    intro j u hu
    have := cCells_at T vs (by simpa using h) k b' v' (by simpa using h1) (by simpa using h2) j u hu
    rw [show (k + 1) * 3 + j = k * 3 + j + 1 + 1 + 1 by omega]
    simpa [cCells] using this
theorem cCells_app : ∀ (T : List Chg) (vs : List (Value × Value)), vs.length = T.length → ∀ T' vs', cCells (T ++ T') (vs ++ vs') = cCells T vs ++ cCells T' vs'
  | [], [], _, _, _ => rfl
  | [], _ :: _, h, _, _ => by simp at h
  | b :: T, [], h, _, _ => by simp at h
  | b :: T, v :: vs, h, T', vs' => by simp [cCells, cCells_app T vs (by simpa using h) T' vs']
/-- The value v is a slice of changes that reads as C. -/
def ChsIs (w : World) (ok : Nat → Prop) (v : Value) (C : List Chg) : Prop := ∃ A c vs, vs.length = C.length ∧ v = .slice A C.length c ∧ C.length ≤ c ∧ Rd w ok A (cCells C vs) ∧ ∀ (k : Nat) b u, C[k]? = some b → vs[k]? = some u → HdIs w ok u.1 b.old ∧ HdIs w ok u.2 b.new
structure CFit1 (c : Chg) : Prop where
  name : c.name.length ≤ 140737488355328
  old : HFit c.old
  new : HFit c.new
structure CFit (C : List Chg) : Prop where
  len : C.length ≤ 2199023255552
  ok : ∀ c ∈ C, CFit1 c
section
variable {w w' : World} {ok ok' : Nat → Prop} {v : Value} {C : List Chg}
theorem ChsIs.stay (h : ChsIs w ok v C) (hk : ∀ b, ok b → b < w.heap.size → w'.heap[b]? = w.heap[b]?) (ho : ∀ b, ok b → b < w.heap.size → ok' b) : ChsIs w' ok' v C := by
  obtain ⟨A, c, vs, hl, e, hc, hr, hh⟩ := h
  exact ⟨A, c, vs, hl, e, hc, hr.stay hk ho, fun k b u h1 h2 => ⟨(hh k b u h1 h2).1.stay hk ho, (hh k b u h1 h2).2.stay hk ho⟩⟩
theorem ChsIs.stayB (h : ChsIs w ok v C) (hb : Below w.heap.size w w') : ChsIs w' ok v C := h.stay (fun b _ hlt => hb.block b hlt) (fun _ h _ => h)
theorem ChsIs.form (h : ChsIs w ok v C) : ∃ A c, v = .slice A C.length c ∧ C.length ≤ c := by
  obtain ⟨A, c, vs, hl, e, hc, _⟩ := h
  exact ⟨A, c, e, hc⟩
theorem ChsIs.nil : ChsIs w ok (.slice none 0 0) [] := ⟨none, 0, [], rfl, rfl, Nat.le_refl _, Rd.nil, fun k b u h _ => by simp at h⟩
/-- The k-th change's three cells. -/
theorem ChsIs.ch {A : Option Addr} {n c : Nat} (h : ChsIs w ok (.slice A n c) C) (k : Nat) (hk : k < C.length) : ∃ b o x y, A = some ⟨b, o, none⟩ ∧ ok b ∧ b < w.heap.size ∧ HdIs w ok x C[k].old ∧ HdIs w ok y C[k].new ∧ ∀ j u, [strV C[k].name, x, y][j]? = some u → w.cell? ⟨b, o + k * 3 + j, none⟩ = some u := by
  obtain ⟨A', c', vs, hl, e, hc, hr, hh⟩ := h
  injection e with e1 e2 e3
  subst e1
  obtain ⟨b, o, rfl, hb, hlt, hcell⟩ := hr.at (by rw [cCells_len C vs hl]; omega)
  have hv : vs[k]? = some vs[k] := List.getElem?_eq_getElem (by omega)
  have hT : C[k]? = some C[k] := List.getElem?_eq_getElem hk
  have h1 := cCells_at C vs hl k _ _ hT hv
  exact ⟨b, o, vs[k].1, vs[k].2, rfl, hb, hlt, (hh k _ _ hT hv).1, (hh k _ _ hT hv).2, fun j u hu => by rw [Nat.add_assoc]; exact hcell _ _ (h1 j u hu)⟩
end
section
variable {w w' : World} {ok : Nat → Prop} {v : Value} {C : List Chg}
theorem ChsIs.ltB (h : ChsIs w ok v C) : ChsIs w (· < w.heap.size) v C := h.stay (fun _ _ _ => rfl) (fun _ _ hlt => hlt)
theorem ChsIs.low {B : Nat} (h : ChsIs w (· < B) v C) (hb : Below B w w') : ChsIs w' (· < B) v C := h.stay (fun b hlt _ => hb.block b hlt) (fun _ h _ => h)
end
theorem two_ret {a b c d : Value} (h1 : a = c) (h2 : b = d) : Ending.returned (.tuple #[a, b]) = .returned (.tuple #[c, d]) := by rw [h1, h2]
theorem digSz {d : Str} (h : d.length = 32) : (Tryd.prog.info? 57).map (·.size) = some (d.map B).length := by rw [List.length_map, h]; kernel_rfl
theorem brSz : (Tryd.prog.info? 61).map (·.size) = some 2 := by kernel_rfl
theorem chSz : (Tryd.prog.info? 46).map (·.size) = some 3 := by kernel_rfl
def brV (n : Str) (v : Value) : Value := .agg #[strV n, v]
def chV (n : Str) (x y : Value) : Value := .agg #[strV n, x, y]
end Go.Proofs.YtlenmkemjaaaoaaDoor
end

section
/- The walk of refs.heads. -/
namespace Go.Proofs.YtlenmkemjaaaoaaDoor
open Go.RowKit

theorem rises_true : ∀ {l : List Str}, (∀ j, j + 1 < l.length → lessS (l.getD j []) (l.getD (j + 1) []) = true) → rises l = true
  | [], _ => rfl
  | [_], _ => rfl
  | a :: b :: r, h => by
    have h0 := h 0 (by simp)
    have ih : rises (b :: r) = true := rises_true fun j hj => by have := h (j + 1) (by simpa using hj); simpa using this
    simp only [rises, Bool.and_eq_true]
    exact ⟨by simpa using h0, ih⟩
theorem rises_false : ∀ {l : List Str} {k : Nat}, k + 1 < l.length → lessS (l.getD k []) (l.getD (k + 1) []) = false → rises l = false
  | [], _, h, _ => by simp at h
  | [_], _, h, _ => by simp at h
  | a :: b :: r, 0, _, h => by simp only [rises, Bool.and_eq_false_iff]; left; simpa using h
  | a :: b :: r, k + 1, hk, h => by
    simp only [rises, Bool.and_eq_false_iff]
    right
    exact rises_false (l := b :: r) (k := k) (by simpa using hk) (by simpa using h)
theorem ret_i {a b : Int} (h : a = b) : Ending.returned (.int .i64 a) = .returned (.int .i64 b) := by rw [h]
set_option maxRecDepth 100000 in
set_option maxHeartbeats 1000000 in
theorem heads_any (l : List Str) (v : Value) (ok : Nat → Prop) (w : World) (h : HdIs w ok v l) (hf : HFit l) :
    Calls Tryd.prog 40 #[v] w fun e w' => e = .returned (.int .i64 (headsE l)) ∧ Below w.heap.size w w' := by
  obtain ⟨A, c, rfl, hc, hr⟩ := h
  have hH : HdIs w ok (.slice A l.length c) l := ⟨A, c, rfl, hc, hr⟩
  have hlen : l.length ≤ 4398046511104 := hf.len
  have hok := Lib.hid hf.ok
  clear hr hc hf
  by_cases h8 : 8 < l.length
  · have he : Hid (headsE l = 4) := Lib.hid (by unfold headsE; rw [if_pos h8])
    go_enter Tryd.func40, Tryd.ntmps40
    go_wp2
    go_ret
    exact ⟨ret_i he.out.symm, Below.refl _ _⟩
  · have h8' : l.length ≤ 8 := by omega
    have he : Hid (headsE l = if rises l then 0 else 7) := Lib.hid (by unfold headsE; rw [if_neg h8])
    replace hH := Lib.hid hH
    clear h8
    go_enter Tryd.func40, Tryd.ntmps40
    go_wp2
    go_loopw [9] (fun i wr => ∃ k : Nat, k ≤ l.length ∧ i = .int .i64 k ∧ Hid (∀ j, j + 1 < k → lessS (l.getD j []) (l.getD (j + 1) []) = true) ∧ Below w.heap.size w wr) (fun i _ => l.length - (intOf i).toNat)
    case atStart => exact ⟨0, Nat.zero_le _, rfl, Lib.hid (fun j hj => by omega), Below.refl _ _⟩
    case round =>
      obtain ⟨k, hk, rfl, hr, hb⟩ := hrel
      by_cases hlt : k < l.length
      · by_cases hk0 : k = 0
        · subst hk0
          have g0 : decide (0 < ((0 : Nat) : Int)) = false := by simp
          go_wp2
          go_quiet (fail)
          go_wp2
          go_roundw
          case rel => exact ⟨1, by omega, by go_num, Lib.hid (fun j hj => by omega), below_drewN hb nq⟩
          case measure => simp [intOf]; omega
        · have hk1 : 0 < k := by omega
          obtain ⟨b, o, rfl, _, hbl, hc2⟩ := hH.out.dig hok.out k hlt
          obtain ⟨b', o', e', _, _, hc1⟩ := hH.out.dig hok.out (k - 1) (by omega)
          cases e'
          obtain ⟨x, hx⟩ : ∃ x, x = l[k - 1] := ⟨_, rfl⟩
          obtain ⟨y, hy⟩ : ∃ y, y = l[k] := ⟨_, rfl⟩
          have hxl : x.length = 32 := by rw [hx]; exact hok.out _ (List.getElem_mem _)
          have hyl : y.length = 32 := by rw [hy]; exact hok.out _ (List.getElem_mem _)
          rw [← hx] at hc1
          rw [← hy] at hc2
          have hxy : Hid (lessS (l.getD (k - 1) []) (l.getD (k - 1 + 1) []) = lessS x y) := Lib.hid (by
            rw [hx, hy, Nat.sub_add_cancel hk1]
            simp [hlt, show k - 1 < l.length by omega])
          have hc1' : ∀ s : Over wr, ∀ j v, (x.map B)[j]? = some v → s.1.cell? ⟨b, o + (k - 1) * 32 + j, none⟩ = some v := fun s j v hv => by
            rw [(hb.trans (s.2.mono hb.size)).cell (p := ⟨b, _, none⟩) hbl]; exact hc1 j v hv
          have hc2' : ∀ s : Over wr, ∀ j v, (y.map B)[j]? = some v → s.1.cell? ⟨b, o + k * 32 + j, none⟩ = some v := fun s j v hv => by
            rw [(hb.trans (s.2.mono hb.size)).cell (p := ⟨b, _, none⟩) hbl]; exact hc2 j v hv
          have hcall := Lib.hid (less_any x y hxl hyl)
          have hsx := Lib.hid (digSz hxl)
          have hsy := Lib.hid (digSz hyl)
          replace hc1' := Lib.hid hc1'
          replace hc2' := Lib.hid hc2'
          clear hx hy hc1 hc2 hxl hyl
          obtain ⟨t, ht⟩ : ∃ t, t = lessS x y := ⟨_, rfl⟩
          rw [← ht] at hxy hcall
          clear ht
          have g0 : decide (0 < (k : Int)) = true := by simpa using hk1
          have e1 : IntKind.i64.wrap ((k : Int) - 1) = (k : Int) - 1 := IntWalk.i64_in _ (by omega)
          have e2 : (0 : Int) ≤ (k : Int) - 1 := by omega
          have e3 : (k : Int) - 1 < (l.length : Int) := by omega
          have e4 : ((k : Int) - 1).toNat = k - 1 := by omega
          have i1 : (0 : Int) ≤ (k : Int) := by omega
          have i2 : (k : Int) < (l.length : Int) := by omega
          haveI := over_nonempty wr
          go_wp2
          refine quiet_over (by kernel_rfl) (by kernel_rfl) ?_
          repeat (first
            | (refine wpQuiet_load_at 57 (.tmp 18) rfl rfl b (o + (k - 1) * 32) rfl (x.map B) (fun w hw => ?_) _ Tryd.underlying57 rfl hsx.out ?_
               · obtain ⟨s, rfl⟩ := hw
                 exact hc1'.out s
               go_frame)
            | (refine wpQuiet_load_at 57 (.tmp 22) rfl rfl b (o + k * 32) rfl (y.map B) (fun w hw => ?_) _ Tryd.underlying57 rfl hsy.out ?_
               · obtain ⟨s, rfl⟩ := hw
                 exact hc2'.out s
               go_frame)
            | go_big_quiet_step ((go_at_call 69; exact calls_over _ (hcall.out _))))
          refine wpQuiet_nil ?_
          rintro _ ⟨s, rfl⟩
          have hb2 := hb.trans (s.2.mono hb.size)
          obtain ⟨w2, hw2⟩ := s
          dsimp only at hb2 ⊢
          clear this hw2 hcall hc1' hc2'
          cases t with
          | true =>
            go_wp2
            go_roundw
            case rel =>
              refine ⟨k + 1, by omega, by go_num, Lib.hid (fun j hj => ?_), hb2⟩
              by_cases hjk : j + 1 < k
              · exact hr.out j hjk
              · obtain rfl : j = k - 1 := by omega
                exact hxy.out
            case measure => simp [intOf]; omega
          | false =>
            have hf : Hid (rises l = false) := Lib.hid (rises_false (k := k - 1) (by omega) hxy.out)
            go_wp2
            go_ret
            exact ⟨ret_i (by rw [he.out, hf.out]; rfl), hb2⟩
      · obtain rfl : k = l.length := by omega
        have hf : Hid (rises l = true) := Lib.hid (rises_true hr.out)
        go_wp2
        go_ret
        exact ⟨ret_i (by rw [he.out, hf.out]; rfl), hb⟩
end Go.Proofs.YtlenmkemjaaaoaaDoor
end

section
/- The walk of the reference's heads. -/
namespace Go.Proofs.YtlenmkemjaaaoaaDoor
open Go.RowKit

set_option maxRecDepth 100000 in
set_option maxHeartbeats 1000000 in
theorem rheads_any (l : List Str) (v : Value) (ok : Nat → Prop) (w : World) (h : HdIs w ok v l) (hf : HFit l) :
    Calls Tryd.prog 54 #[v] w fun e w' => e = .returned (.int .i64 (headsE l)) ∧ Below w.heap.size w w' := by
  obtain ⟨A, c, rfl, hc, hr⟩ := h
  have hH : HdIs w ok (.slice A l.length c) l := ⟨A, c, rfl, hc, hr⟩
  have hlen : l.length ≤ 4398046511104 := hf.len
  have hok := Lib.hid hf.ok
  clear hr hc hf
  by_cases h8 : 8 < l.length
  · have he : Hid (headsE l = 4) := Lib.hid (by unfold headsE; rw [if_pos h8])
    go_enter Tryd.func54, Tryd.ntmps54
    go_wp2
    go_ret
    exact ⟨ret_i he.out.symm, Below.refl _ _⟩
  · have h8' : l.length ≤ 8 := by omega
    have he : Hid (headsE l = if rises l then 0 else 7) := Lib.hid (by unfold headsE; rw [if_neg h8])
    replace hH := Lib.hid hH
    clear h8
    go_enter Tryd.func54, Tryd.ntmps54
    go_wp2
    go_loopw [3] (fun i wr => ∃ k : Nat, 1 ≤ k ∧ k ≤ l.length + 1 ∧ i = .int .i64 k ∧ Hid (∀ j, j + 1 < k → j + 1 < l.length → lessS (l.getD j []) (l.getD (j + 1) []) = true) ∧ Below w.heap.size w wr) (fun i _ => l.length - (intOf i).toNat)
    case atStart => exact ⟨1, by omega, by omega, rfl, Lib.hid (fun j hj => by omega), Below.refl _ _⟩
    case round =>
      obtain ⟨k, hk1, hk, rfl, hr, hb⟩ := hrel
      by_cases hlt : k < l.length
      · obtain ⟨b, o, rfl, _, hbl, hc2⟩ := hH.out.dig hok.out k hlt
        obtain ⟨b', o', e', _, _, hc1⟩ := hH.out.dig hok.out (k - 1) (by omega)
        cases e'
        obtain ⟨x, hx⟩ : ∃ x, x = l[k - 1] := ⟨_, rfl⟩
        obtain ⟨y, hy⟩ : ∃ y, y = l[k] := ⟨_, rfl⟩
        have hxl : x.length = 32 := by rw [hx]; exact hok.out _ (List.getElem_mem _)
        have hyl : y.length = 32 := by rw [hy]; exact hok.out _ (List.getElem_mem _)
        rw [← hx] at hc1
        rw [← hy] at hc2
        have hxy : Hid (lessS (l.getD (k - 1) []) (l.getD (k - 1 + 1) []) = lessS x y) := Lib.hid (by
          rw [hx, hy, Nat.sub_add_cancel hk1]
          simp [hlt, show k - 1 < l.length by omega])
        have hc1' : ∀ s : Over wr, ∀ j v, (x.map B)[j]? = some v → s.1.cell? ⟨b, o + (k - 1) * 32 + j, none⟩ = some v := fun s j v hv => by
          rw [(hb.trans (s.2.mono hb.size)).cell (p := ⟨b, _, none⟩) hbl]; exact hc1 j v hv
        have hc2' : ∀ s : Over wr, ∀ j v, (y.map B)[j]? = some v → s.1.cell? ⟨b, o + k * 32 + j, none⟩ = some v := fun s j v hv => by
          rw [(hb.trans (s.2.mono hb.size)).cell (p := ⟨b, _, none⟩) hbl]; exact hc2 j v hv
        have hcall := Lib.hid (rless_any x y hxl hyl)
        have hsx := Lib.hid (digSz hxl)
        have hsy := Lib.hid (digSz hyl)
        replace hc1' := Lib.hid hc1'
        replace hc2' := Lib.hid hc2'
        clear hx hy hc1 hc2 hxl hyl
        obtain ⟨t, ht⟩ : ∃ t, t = lessS x y := ⟨_, rfl⟩
        rw [← ht] at hxy hcall
        clear ht
        have e1 : IntKind.i64.wrap ((k : Int) - 1) = (k : Int) - 1 := IntWalk.i64_in _ (by omega)
        have e2 : (0 : Int) ≤ (k : Int) - 1 := by omega
        have e3 : (k : Int) - 1 < (l.length : Int) := by omega
        have e4 : ((k : Int) - 1).toNat = k - 1 := by omega
        have i1 : (0 : Int) ≤ (k : Int) := by omega
        have i2 : (k : Int) < (l.length : Int) := by omega
        haveI := over_nonempty wr
        go_wp2
        refine quiet_over (by kernel_rfl) (by kernel_rfl) ?_
        repeat (first
          | (refine wpQuiet_load_at 57 (.tmp 16) rfl rfl b (o + (k - 1) * 32) rfl (x.map B) (fun w hw => ?_) _ Tryd.underlying57 rfl hsx.out ?_
             · obtain ⟨s, rfl⟩ := hw
               exact hc1'.out s
             go_frame)
          | (refine wpQuiet_load_at 57 (.tmp 20) rfl rfl b (o + k * 32) rfl (y.map B) (fun w hw => ?_) _ Tryd.underlying57 rfl hsy.out ?_
             · obtain ⟨s, rfl⟩ := hw
               exact hc2'.out s
             go_frame)
          | go_big_quiet_step ((go_at_call 82; exact calls_over _ (hcall.out _))))
        refine wpQuiet_nil ?_
        rintro _ ⟨s, rfl⟩
        have hb2 := hb.trans (s.2.mono hb.size)
        obtain ⟨w2, hw2⟩ := s
        dsimp only at hb2 ⊢
        clear this hw2 hcall hc1' hc2'
        cases t with
        | true =>
          go_wp2
          go_roundw
          case rel =>
            refine ⟨k + 1, by omega, by omega, by go_num, Lib.hid (fun j hj hj2 => ?_), hb2⟩
            by_cases hjk : j + 1 < k
            · exact hr.out j hjk hj2
            · obtain rfl : j = k - 1 := by omega
              exact hxy.out
          case measure => simp [intOf]; omega
        | false =>
          have hf : Hid (rises l = false) := Lib.hid (rises_false (k := k - 1) (by omega) hxy.out)
          go_wp2
          go_ret
          exact ⟨ret_i (by rw [he.out, hf.out]; rfl), hb2⟩
      · have hf : Hid (rises l = true) := Lib.hid (rises_true (fun j hj => hr.out j (by omega) hj))
        go_wp2
        go_ret
        exact ⟨ret_i (by rw [he.out, hf.out]; rfl), hb⟩
end Go.Proofs.YtlenmkemjaaaoaaDoor
end
