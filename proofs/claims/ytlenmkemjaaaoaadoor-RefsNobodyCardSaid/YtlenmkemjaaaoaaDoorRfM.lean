/- Words for memory: lists of digests, tables, rows of changes; laws for loads out of them. -/
import Derived.Test.YtlenmkemjaaaoaaDoorRfP
import Derived.Test.YtlenmkemjaaaoaaDoorDkW
import Derived.Test.YtlenmkemjaaaoaaDoorBelowQ
import Derived.Test.YtlenmkemjaaaoaaDoorLess
namespace Go.Proofs.YtlenmkemjaaaoaaDoor
open Go.RowKit
section
variable {P : Program}
theorem wpList_wanted {ops : Array Oper} {rest : List Oper} {o : Oper} {a : Act} {w : World} {Q : Exit → Act → World → Prop} (hw : Region.wanted o (yielded ops a.tmps) = true)
    (h : ∀ K : Act → World → Prop, (∀ a w, wpList P ops Q rest a w → K a w) → o.wp P a w K Q) : wpList P ops Q (o :: rest) a w :=
  wpList_step fun K hK => by rw [if_pos hw]; exact h K hK
theorem wpList_run_g {ops : Array Oper} {rest : List Oper} {o : Oper} {a : Act} {w : World} {Q : Exit → Act → World → Prop} (op : Op) (_ho : o.op = op) (hw : Region.wanted o (yielded ops a.tmps) = true) (v : Value)
    (hrun : (execOp a.eval o).run P w = .ok (.value v) w) (h : wpList P ops Q rest (a.put o.dst v) w) : wpList P ops Q (o :: rest) a w := by
  refine wpList_wanted hw fun _ hK => ?_
  unfold Oper.wp
  rw [hrun]
  exact hK _ _ h
theorem wpQuiet_run_g {ops : Array Oper} {rest : List Oper} {o : Oper} {a : Act} {C : World → Prop} {Q : Act → Prop} (op : Op) (_ho : o.op = op) (hw : Region.wanted o (yielded ops a.tmps) = true) (v : Value)
    (hrun : ∀ w, C w → (execOp a.eval o).run P w = .ok (.value v) w) (h : wpQuiet P ops C Q rest (a.put o.dst v)) : wpQuiet P ops C Q (o :: rest) a := by
  refine wpQuiet_step fun K hK => ?_
  rw [if_pos hw]
  exact ⟨v, fun w hC => by unfold Oper.quietAt; rw [hrun w hC]; exact ⟨rfl, rfl⟩, hK _ h⟩
/-- An aggregate is read where its cells are known. -/
theorem wpList_load_at {ops : Array Oper} {rest : List Oper} {op : Oper} {a : Act} {w : World} {Q : Exit → Act → World → Prop} (ty : TypeId) (x : Operand) (ho : op.op = .load ty x) (hw : Region.wanted op (yielded ops a.tmps) = true)
    (g o : Nat) (hx : a.eval x = .pointer (some ⟨g, o, none⟩)) (part : List Value) (hc : ∀ j v, part[j]? = some v → w.cell? ⟨g, o + j, none⟩ = some v) (d : TypeDesc)
    (hu : P.underlying ty = some d) (hd : d.isRow = true) (hi : (P.info? ty).map (·.size) = some part.length)
    (h : wpList P ops Q rest (a.put op.dst (.agg part.toArray)) w) : wpList P ops Q (op :: rest) a w := by
  refine wpList_run_g _ ho hw _ ?_ h
  unfold execOp
  simp only [ho, hx, Instr.loadAt, Instr.sureAddr, Sem.run_bind, Sem.run_pure, Result.andThen_ok, run_loadVar_mid w g o ty part d hc hu hd hi]
theorem wpQuiet_load_at {ops : Array Oper} {rest : List Oper} {op : Oper} {a : Act} {C : World → Prop} {Q : Act → Prop} (ty : TypeId) (x : Operand) (ho : op.op = .load ty x) (hw : Region.wanted op (yielded ops a.tmps) = true)
    (g o : Nat) (hx : a.eval x = .pointer (some ⟨g, o, none⟩)) (part : List Value) (hc : ∀ w, C w → ∀ j v, part[j]? = some v → w.cell? ⟨g, o + j, none⟩ = some v) (d : TypeDesc)
    (hu : P.underlying ty = some d) (hd : d.isRow = true) (hi : (P.info? ty).map (·.size) = some part.length)
    (h : wpQuiet P ops C Q rest (a.put op.dst (.agg part.toArray))) : wpQuiet P ops C Q (op :: rest) a := by
  refine wpQuiet_run_g _ ho hw _ (fun w hw => ?_) h
  unfold execOp
  simp only [ho, hx, Instr.loadAt, Instr.sureAddr, Sem.run_bind, Sem.run_pure, Result.andThen_ok, run_loadVar_mid w g o ty part d (hc w hw) hu hd hi]
theorem wpQuiet_neq_dig {ops : Array Oper} {rest : List Oper} {o : Oper} {a : Act} {C : World → Prop} {Q : Act → Prop} (x y : Operand) (yt : TypeId) (ho : o.op = .binOp .neq 57 x y yt) (hw : Region.wanted o (yielded ops a.tmps) = true)
    (xs ys : List UInt8) (hxe : a.eval x = .agg (xs.map B).toArray) (hye : a.eval y = .agg (ys.map B).toArray) (hx : xs.length = 32) (hy : ys.length = 32) (r : Bool) (hr : (!(xs == ys)) = r)
    (h : wpQuiet Tryd.prog ops C Q rest (a.put o.dst (.bool r))) : wpQuiet Tryd.prog ops C Q (o :: rest) a :=
  wpQuiet_run_g _ ho hw _ (fun w _ => by rw [exec_neq_dig w ho xs ys hxe hye hx hy, hr]) h
end

/-! ### cells that are read -/
section
variable {w w' : World} {ok ok' : Nat → Prop} {A : Option Addr} {xs : List Value}
theorem Rd.at (h : Rd w ok A xs) (hn : 0 < xs.length) : ∃ b o, A = some ⟨b, o, none⟩ ∧ ok b ∧ b < w.heap.size ∧ ∀ j u, xs[j]? = some u → w.cell? ⟨b, o + j, none⟩ = some u := by
  obtain ⟨⟨b, o, spot⟩, rfl, hb, hc⟩ := h hn
  have h0 := hc 0 xs[0] (List.getElem?_eq_getElem hn)
  have hs : spot = none := by simpa [Addr.add] using World.cell?_spot h0
  subst hs
  refine ⟨b, o, rfl, hb, World.block_lt_of_cell? _ _ (by simpa [Addr.add] using h0), fun j u hu => ?_⟩
  have := hc j u hu
  rwa [addr_add] at this
theorem Rd.stay (h : Rd w ok A xs) (hk : ∀ b, ok b → b < w.heap.size → w'.heap[b]? = w.heap[b]?) (ho : ∀ b, ok b → b < w.heap.size → ok' b) : Rd w' ok' A xs := fun hn => by
  obtain ⟨b, o, rfl, hb, hlt, hc⟩ := h.at hn
  refine ⟨_, rfl, ho b hb hlt, fun j u hu => ?_⟩
  rw [addr_add, World.cell?_of_block (hk b hb hlt)]
  exact hc j u hu
theorem Rd.stayB (h : Rd w ok A xs) (hb : Below w.heap.size w w') : Rd w' ok A xs := h.stay (fun b _ hlt => hb.block b hlt) (fun _ h _ => h)
end

/-- The cells of a list of digests. -/
def hCells (l : List Str) : List Value := l.flatMap fun d => d.map B
theorem hCells_cons (d : Str) (l : List Str) : hCells (d :: l) = d.map B ++ hCells l := by simp [hCells]
theorem hCells_snoc (l : List Str) (d : Str) : hCells (l ++ [d]) = hCells l ++ d.map B := by simp [hCells]
theorem hCells_len : ∀ {l : List Str}, hOk l → (hCells l).length = l.length * 32
  | [], _ => rfl
  | d :: l, h => by
    rw [hCells_cons, List.length_append, hCells_len (l := l) (fun x hx => h x (by simp [hx])), List.length_map, h d (by simp), List.length_cons]
    omega
theorem hCells_at : ∀ {l : List Str}, hOk l → ∀ (k : Nat) (hk : k < l.length) (j : Nat) v, (l[k].map B)[j]? = some v → (hCells l)[k * 32 + j]? = some v
  | d :: l, h, 0, hk, j, v, hv => by
    rw [hCells_cons, List.getElem?_append_left (by have := (List.getElem?_eq_some_iff.1 hv).1; simpa using this)]
    simpa using hv
  | d :: l, h, k + 1, hk, j, v, hv => by
    have hd : (d.map B).length = 32 := by rw [List.length_map]; exact h d (by simp)
    rw [hCells_cons, List.getElem?_append_right (by omega), hd, show (k + 1) * 32 + j - 32 = k * 32 + j by omega]
    exact hCells_at (l := l) (fun x hx => h x (by simp [hx])) k (by simpa using hk) j v (by simpa using hv)
theorem hCells_one (l : List Str) : ∀ v ∈ hCells l, v.oneCell' = true := by
  intro v hv
  unfold hCells at hv
  obtain ⟨d, _, hd⟩ := List.mem_flatMap.1 hv
  obtain ⟨x, _, rfl⟩ := List.mem_map.1 hd
  rfl
/-- The value v is a slice of digests that reads as l. -/
def HdIs (w : World) (ok : Nat → Prop) (v : Value) (l : List Str) : Prop := ∃ A c, v = .slice A l.length c ∧ l.length ≤ c ∧ Rd w ok A (hCells l)
structure HFit (l : List Str) : Prop where
  len : l.length ≤ 4398046511104
  ok : hOk l
section
variable {w w' : World} {ok ok' : Nat → Prop} {v : Value} {l : List Str}
theorem HdIs.stay (h : HdIs w ok v l) (hk : ∀ b, ok b → b < w.heap.size → w'.heap[b]? = w.heap[b]?) (ho : ∀ b, ok b → b < w.heap.size → ok' b) : HdIs w' ok' v l := by
  obtain ⟨A, c, e, hc, hr⟩ := h
  exact ⟨A, c, e, hc, hr.stay hk ho⟩
theorem HdIs.stayB (h : HdIs w ok v l) (hb : Below w.heap.size w w') : HdIs w' ok v l := h.stay (fun b _ hlt => hb.block b hlt) (fun _ h _ => h)
/-- The k-th digest's cells. -/
theorem HdIs.dig {A : Option Addr} {n c : Nat} (h : HdIs w ok (.slice A n c) l) (ho : hOk l) (k : Nat) (hk : k < l.length) : ∃ b o, A = some ⟨b, o, none⟩ ∧ ok b ∧ b < w.heap.size ∧ ∀ j v, (l[k].map B)[j]? = some v → w.cell? ⟨b, o + k * 32 + j, none⟩ = some v := by
  obtain ⟨A', c', e, hc, hr⟩ := h
  injection e with e1 e2 e3
  subst e1
  obtain ⟨b, o, rfl, hb, hlt, hcell⟩ := hr.at (by rw [hCells_len ho]; omega)
  exact ⟨b, o, rfl, hb, hlt, fun j v hv => by rw [Nat.add_assoc]; exact hcell _ v (hCells_at ho k hk j v hv)⟩
end

/-- The cells of a table: names, and slices of digests. -/
def tCells : Tab → List Value → List Value
  | b :: T, v :: vs => strV b.name :: v :: tCells T vs
  | _, _ => []
theorem tCells_len : ∀ (T : Tab) (vs : List Value), vs.length = T.length → (tCells T vs).length = T.length * 2
  | [], _, _ => by simp [tCells]
  | b :: T, [], h => by simp at h
  | b :: T, v :: vs, h => by
    simp only [tCells, List.length_cons, tCells_len T vs (by simpa using h)]
    omega
theorem tCells_at : ∀ (T : Tab) (vs : List Value), vs.length = T.length → ∀ k b v, T[k]? = some b → vs[k]? = some v → (tCells T vs)[k * 2]? = some (strV b.name) ∧ (tCells T vs)[k * 2 + 1]? = some v
  | [], _, _, k, b, v, h, _ => by simp at h
  | b :: T, [], h, _, _, _, _, _ => by simp at h
  | b :: T, v :: vs, h, 0, b', v', h1, h2 => by
    simp only [List.getElem?_cons_zero, Option.some.injEq] at h1 h2
    subst h1; subst h2
    simp [tCells]
  | b :: T, v :: vs, h, k + 1, b', v', h1, h2 => by
    have := tCells_at T vs (by simpa using h) k b' v' (by simpa using h1) (by simpa using h2)
    rw [show (k + 1) * 2 = k * 2 + 1 + 1 by omega]
    simpa [tCells] using this
theorem tCells_app : ∀ (T : Tab) (vs : List Value), vs.length = T.length → ∀ T' vs', tCells (T ++ T') (vs ++ vs') = tCells T vs ++ tCells T' vs'
  | [], [], _, _, _ => rfl
  | [], _ :: _, h, _, _ => by simp at h
  | b :: T, [], h, _, _ => by simp at h
  | b :: T, v :: vs, h, T', vs' => by simp [tCells, tCells_app T vs (by simpa using h) T' vs']
/-- The value v is a slice of branches that reads as T; what lies there lies in blocks of which 'ok' holds. -/
def TabIs (w : World) (ok : Nat → Prop) (v : Value) (T : Tab) : Prop := ∃ A c vs, vs.length = T.length ∧ v = .slice A T.length c ∧ T.length ≤ c ∧ Rd w ok A (tCells T vs) ∧ ∀ (k : Nat) b u, T[k]? = some b → vs[k]? = some u → HdIs w ok u b.heads
structure BFit (b : Br) : Prop where
  name : b.name.length ≤ 140737488355328
  heads : HFit b.heads
structure TFit (T : Tab) : Prop where
  len : T.length ≤ 3518437208832
  ok : ∀ b ∈ T, BFit b
section
variable {w w' : World} {ok ok' : Nat → Prop} {v : Value} {T : Tab}
theorem TabIs.stay (h : TabIs w ok v T) (hk : ∀ b, ok b → b < w.heap.size → w'.heap[b]? = w.heap[b]?) (ho : ∀ b, ok b → b < w.heap.size → ok' b) : TabIs w' ok' v T := by
  obtain ⟨A, c, vs, hl, e, hc, hr, hh⟩ := h
  exact ⟨A, c, vs, hl, e, hc, hr.stay hk ho, fun k b u h1 h2 => (hh k b u h1 h2).stay hk ho⟩
theorem TabIs.stayB (h : TabIs w ok v T) (hb : Below w.heap.size w w') : TabIs w' ok v T := h.stay (fun b _ hlt => hb.block b hlt) (fun _ h _ => h)
theorem TabIs.form (h : TabIs w ok v T) : ∃ A c, v = .slice A T.length c ∧ T.length ≤ c := by
  obtain ⟨A, c, vs, hl, e, hc, _⟩ := h
  exact ⟨A, c, e, hc⟩
theorem TabIs.nil : TabIs w ok (.slice none 0 0) [] := ⟨none, 0, [], rfl, rfl, Nat.le_refl _, Rd.nil, fun k b u h _ => by simp at h⟩
theorem HdIs.nil : HdIs w ok (.slice none 0 0) [] := ⟨none, 0, rfl, Nat.le_refl _, Rd.nil⟩
/-- The k-th branch's two cells. -/
theorem TabIs.br {A : Option Addr} {n c : Nat} (h : TabIs w ok (.slice A n c) T) (k : Nat) (hk : k < T.length) : ∃ b o u, A = some ⟨b, o, none⟩ ∧ ok b ∧ b < w.heap.size ∧ HdIs w ok u T[k].heads ∧ w.cell? ⟨b, o + k * 2, none⟩ = some (strV T[k].name) ∧ w.cell? ⟨b, o + k * 2 + 1, none⟩ = some u := by
  obtain ⟨A', c', vs, hl, e, hc, hr, hh⟩ := h
  injection e with e1 e2 e3
  subst e1
  obtain ⟨b, o, rfl, hb, hlt, hcell⟩ := hr.at (by rw [tCells_len T vs hl]; omega)
  have hv : vs[k]? = some vs[k] := List.getElem?_eq_getElem (by omega)
  have hT : T[k]? = some T[k] := List.getElem?_eq_getElem hk
  obtain ⟨h1, h2⟩ := tCells_at T vs hl k _ _ hT hv
  exact ⟨b, o, vs[k], rfl, hb, hlt, hh k _ _ hT hv, hcell _ _ h1, by have := hcell _ _ h2; rwa [← Nat.add_assoc] at this⟩
end
section
variable {w w' : World} {ok : Nat → Prop} {v : Value}
theorem HdIs.ltB {l : List Str} (h : HdIs w ok v l) : HdIs w (· < w.heap.size) v l := h.stay (fun _ _ _ => rfl) (fun _ _ hlt => hlt)
theorem TabIs.ltB {T : Tab} (h : TabIs w ok v T) : TabIs w (· < w.heap.size) v T := h.stay (fun _ _ _ => rfl) (fun _ _ hlt => hlt)
theorem HdIs.low {B : Nat} {l : List Str} (h : HdIs w (· < B) v l) (hb : Below B w w') : HdIs w' (· < B) v l := h.stay (fun b hlt _ => hb.block b hlt) (fun _ h _ => h)
theorem TabIs.low {B : Nat} {T : Tab} (h : TabIs w (· < B) v T) (hb : Below B w w') : TabIs w' (· < B) v T := h.stay (fun b hlt _ => hb.block b hlt) (fun _ h _ => h)
theorem HdIs.weakB {B B' : Nat} {l : List Str} (h : HdIs w (· < B) v l) (hB : B ≤ B') : HdIs w (· < B') v l := h.stay (fun _ _ _ => rfl) (fun _ h _ => Nat.lt_of_lt_of_le h hB)
end
theorem two_cells {w : World} {b o : Nat} {x y : Value} (h1 : w.cell? ⟨b, o, none⟩ = some x) (h2 : w.cell? ⟨b, o + 1, none⟩ = some y) : ∀ j v, [x, y][j]? = some v → w.cell? ⟨b, o + j, none⟩ = some v := by
  intro j v hv
  match j, hv with
  | 0, hv => simp only [List.getElem?_cons_zero, Option.some.injEq] at hv; subst hv; exact h1
  | 1, hv => simp only [List.getElem?_cons_succ, List.getElem?_cons_zero, Option.some.injEq] at hv; subst hv; exact h2

/-! ### changes -/
def cCells : List Chg → List (Value × Value) → List Value
  | c :: C, v :: vs => strV c.name :: v.1 :: v.2 :: cCells C vs
  | _, _ => []
theorem cCells_len : ∀ (C : List Chg) (vs : List (Value × Value)), vs.length = C.length → (cCells C vs).length = C.length * 3
  | [], _, _ => by simp [cCells]
  | b :: T, [], h => by simp at h
  | b :: T, v :: vs, h => by
    simp only [cCells, List.length_cons, cCells_len T vs (by simpa using h)]
    omega
theorem cCells_at : ∀ (C : List Chg) (vs : List (Value × Value)), vs.length = C.length → ∀ k b v, C[k]? = some b → vs[k]? = some v → ∀ j u, [strV b.name, v.1, v.2][j]? = some u → (cCells C vs)[k * 3 + j]? = some u
  | [], _, _, k, b, v, h, _ => by simp at h
  | b :: T, [], h, _, _, _, _, _ => by simp at h
  | b :: T, v :: vs, h, 0, b', v', h1, h2 => by
    simp only [List.getElem?_cons_zero, Option.some.injEq] at h1 h2
    subst h1; subst h2
    intro j u hu
    match j, hu with
    | 0, hu => simpa [cCells] using hu
    | 1, hu => simpa [cCells] using hu
    | 2, hu => simpa [cCells] using hu
  | b :: T, v :: vs, h, k + 1, b', v', h1, h2 => by
    intro j u hu
    have := cCells_at T vs (by simpa using h) k b' v' (by simpa using h1) (by simpa using h2) j u hu
    rw [show (k + 1) * 3 + j = k * 3 + j + 1 + 1 + 1 by omega]
    simpa [cCells] using this
theorem cCells_app : ∀ (T : List Chg) (vs : List (Value × Value)), vs.length = T.length → ∀ T' vs', cCells (T ++ T') (vs ++ vs') = cCells T vs ++ cCells T' vs'
  | [], [], _, _, _ => rfl
  | [], _ :: _, h, _, _ => by simp at h
  | b :: T, [], h, _, _ => by simp at h
  | b :: T, v :: vs, h, T', vs' => by simp [cCells, cCells_app T vs (by simpa using h) T' vs']
/-- The value v is a slice of changes that reads as C. -/
def ChsIs (w : World) (ok : Nat → Prop) (v : Value) (C : List Chg) : Prop := ∃ A c vs, vs.length = C.length ∧ v = .slice A C.length c ∧ C.length ≤ c ∧ Rd w ok A (cCells C vs) ∧ ∀ (k : Nat) b u, C[k]? = some b → vs[k]? = some u → HdIs w ok u.1 b.old ∧ HdIs w ok u.2 b.new
structure CFit1 (c : Chg) : Prop where
  name : c.name.length ≤ 140737488355328
  old : HFit c.old
  new : HFit c.new
structure CFit (C : List Chg) : Prop where
  len : C.length ≤ 2199023255552
  ok : ∀ c ∈ C, CFit1 c
section
variable {w w' : World} {ok ok' : Nat → Prop} {v : Value} {C : List Chg}
theorem ChsIs.stay (h : ChsIs w ok v C) (hk : ∀ b, ok b → b < w.heap.size → w'.heap[b]? = w.heap[b]?) (ho : ∀ b, ok b → b < w.heap.size → ok' b) : ChsIs w' ok' v C := by
  obtain ⟨A, c, vs, hl, e, hc, hr, hh⟩ := h
  exact ⟨A, c, vs, hl, e, hc, hr.stay hk ho, fun k b u h1 h2 => ⟨(hh k b u h1 h2).1.stay hk ho, (hh k b u h1 h2).2.stay hk ho⟩⟩
theorem ChsIs.stayB (h : ChsIs w ok v C) (hb : Below w.heap.size w w') : ChsIs w' ok v C := h.stay (fun b _ hlt => hb.block b hlt) (fun _ h _ => h)
theorem ChsIs.form (h : ChsIs w ok v C) : ∃ A c, v = .slice A C.length c ∧ C.length ≤ c := by
  obtain ⟨A, c, vs, hl, e, hc, _⟩ := h
  exact ⟨A, c, e, hc⟩
theorem ChsIs.nil : ChsIs w ok (.slice none 0 0) [] := ⟨none, 0, [], rfl, rfl, Nat.le_refl _, Rd.nil, fun k b u h _ => by simp at h⟩
/-- The k-th change's three cells. -/
theorem ChsIs.ch {A : Option Addr} {n c : Nat} (h : ChsIs w ok (.slice A n c) C) (k : Nat) (hk : k < C.length) : ∃ b o x y, A = some ⟨b, o, none⟩ ∧ ok b ∧ b < w.heap.size ∧ HdIs w ok x C[k].old ∧ HdIs w ok y C[k].new ∧ ∀ j u, [strV C[k].name, x, y][j]? = some u → w.cell? ⟨b, o + k * 3 + j, none⟩ = some u := by
  obtain ⟨A', c', vs, hl, e, hc, hr, hh⟩ := h
  injection e with e1 e2 e3
  subst e1
  obtain ⟨b, o, rfl, hb, hlt, hcell⟩ := hr.at (by rw [cCells_len C vs hl]; omega)
  have hv : vs[k]? = some vs[k] := List.getElem?_eq_getElem (by omega)
  have hT : C[k]? = some C[k] := List.getElem?_eq_getElem hk
  have h1 := cCells_at C vs hl k _ _ hT hv
  exact ⟨b, o, vs[k].1, vs[k].2, rfl, hb, hlt, (hh k _ _ hT hv).1, (hh k _ _ hT hv).2, fun j u hu => by rw [Nat.add_assoc]; exact hcell _ _ (h1 j u hu)⟩
end
section
variable {w w' : World} {ok : Nat → Prop} {v : Value} {C : List Chg}
theorem ChsIs.ltB (h : ChsIs w ok v C) : ChsIs w (· < w.heap.size) v C := h.stay (fun _ _ _ => rfl) (fun _ _ hlt => hlt)
theorem ChsIs.low {B : Nat} (h : ChsIs w (· < B) v C) (hb : Below B w w') : ChsIs w' (· < B) v C := h.stay (fun b hlt _ => hb.block b hlt) (fun _ h _ => h)
end
theorem two_ret {a b c d : Value} (h1 : a = c) (h2 : b = d) : Ending.returned (.tuple #[a, b]) = .returned (.tuple #[c, d]) := by rw [h1, h2]
theorem digSz {d : Str} (h : d.length = 32) : (Tryd.prog.info? 57).map (·.size) = some (d.map B).length := by rw [List.length_map, h]; kernel_rfl
theorem brSz : (Tryd.prog.info? 61).map (·.size) = some 2 := by kernel_rfl
theorem chSz : (Tryd.prog.info? 46).map (·.size) = some 3 := by kernel_rfl
def brV (n : Str) (v : Value) : Value := .agg #[strV n, v]
def chV (n : Str) (x y : Value) : Value := .agg #[strV n, x, y]
end Go.Proofs.YtlenmkemjaaaoaaDoor
