/- Joined: RfA, RfW, RfX. -/
import Derived.Test.YtlenmkemjaaaoaaDoorRjIns
section
/- Changes in plain words: what a place in a sorted table has to do with what the document says. -/
namespace Go.Proofs.YtlenmkemjaaaoaaDoor
open Go.RowKit

def midT (c : Chg) : Tab := if c.new = [] then [] else [⟨c.name, c.new⟩]
def stepT (T : Tab) (c : Chg) : Tab := T.take (posT T c.name) ++ (midT c ++ (if hitT T c.name then T.drop (posT T c.name + 1) else T.drop (posT T c.name)))
theorem putG_none {n : Str} {h : List Str} : ∀ {r : Tab}, (∀ b ∈ r, b.name ≠ n) → putG n h true r = r
  | [], _ => rfl
  | b :: r, hb => by
    unfold putG
    rw [if_neg (by simp), if_neg (hb b (by simp)), putG_none (r := r) (fun x hx => hb x (by simp [hx]))]
    rfl
theorem putG_first {n : Str} {h : List Str} : ∀ {r : Tab}, (∀ b ∈ r, lessS n b.name = true) → putG n h false r = ⟨n, h⟩ :: r
  | [], _ => rfl
  | b :: r, hb => by
    have h1 := hb b (by simp)
    unfold putG
    rw [if_pos ⟨rfl, h1⟩, if_neg (fun e => lessS_ne h1 e.symm), putG_none (r := r) (fun x hx e => lessS_ne (hb x (by simp [hx])) e.symm)]
    rfl
theorem put_mid {n : Str} {h : List Str} {r : Tab} (hb : ∀ b ∈ r, lessS n b.name = true) : putG n h (decide (h = [])) r = (if h = [] then [] else [⟨n, h⟩]) ++ r := by
  by_cases hh : h = []
  · rw [decide_eq_true hh, if_pos hh, putG_none (fun x hx e => lessS_ne (hb x hx) e.symm)]
    rfl
  · rw [decide_eq_false hh, if_neg hh, putG_first hb]
    rfl
theorem putG_at {n : Str} {h : List Str} : ∀ {T : Tab}, sorted T → putG n h (decide (h = [])) T = T.take (posT T n) ++ ((if h = [] then [] else [⟨n, h⟩]) ++ (if hitT T n then T.drop (posT T n + 1) else T.drop (posT T n)))
  | [], _ => by
    have := put_mid (n := n) (h := h) (r := []) (by simp)
    rw [this]
    simp [posT, hitT]
  | b :: r, hs => by
    obtain ⟨h1, h2⟩ := List.pairwise_cons.1 hs
    by_cases hb : lessS b.name n = true
    · have e : posT (b :: r) n = posT r n + 1 := by unfold posT; rw [List.takeWhile_cons, if_pos hb, List.length_cons]
      have eh : hitT (b :: r) n = hitT r n := by unfold hitT; rw [e, List.getElem?_cons_succ]
      have hnb : lessS n b.name = false := lessS_asym _ _ hb
      have ih := putG_at (n := n) (h := h) h2
      rw [e, eh]
      unfold putG
      rw [if_neg (by simp [hnb]), if_neg (lessS_ne hb), ih]
      simp only [List.take_succ_cons, List.drop_succ_cons, List.cons_append, List.nil_append]
    · have hb' : lessS b.name n = false := by simpa using hb
      have e : posT (b :: r) n = 0 := by unfold posT; rw [List.takeWhile_cons, if_neg hb]; rfl
      by_cases he : b.name = n
      · have eh : hitT (b :: r) n = true := by unfold hitT; rw [e]; simp [he]
        rw [e, eh]
        unfold putG
        rw [if_neg (by rw [he, lessS_irr]; simp), if_pos he, put_mid (fun x hx => by rw [← he]; exact h1 x hx)]
        simp
      · have hn : lessS n b.name = true := by
          cases hc : lessS n b.name with
          | true => rfl
          | false => exact absurd (lessS_total _ _ hb' hc) he
        have eh : hitT (b :: r) n = false := by unfold hitT; rw [e]; simp [he]
        rw [e, eh]
        have := put_mid (n := n) (h := h) (r := b :: r) (fun x hx => by
          rcases List.mem_cons.1 hx with rfl | hx
          · exact hn
          · exact lessS_trans _ _ _ hn (h1 x hx))
        rw [this]
        simp
theorem step_put {T : Tab} (hs : sorted T) (c : Chg) : stepT T c = putT T c.name c.new := (putG_at hs).symm
theorem posT_split {T : Tab} (hs : sorted T) (n : Str) : (∀ b ∈ T.take (posT T n), lessS b.name n = true) ∧ (∀ b ∈ (if hitT T n then T.drop (posT T n + 1) else T.drop (posT T n)), lessS n b.name = true) := by
  refine ⟨fun b hb => ?_, fun b hb => ?_⟩
  · obtain ⟨x, hx, rfl⟩ := List.mem_iff_getElem.1 hb
    rw [List.length_take] at hx
    rw [List.getElem_take]
    exact posT_lt x (by omega) (by omega)
  · have hrest : ∀ x (hx : x < T.length), posT T n < x → lessS n T[x].name = true := fun x hx hlt => by
      have hp : posT T n < T.length := by omega
      have g1 := posT_ge hp
      have g2 := sorted_lt hs hlt hx
      cases hc : lessS n T[posT T n].name with
      | true => exact lessS_trans _ _ _ hc g2
      | false => rw [← lessS_total _ _ g1 hc]; exact g2
    by_cases hh : hitT T n = true
    · rw [if_pos hh] at hb
      obtain ⟨x, hx, rfl⟩ := List.mem_iff_getElem.1 hb
      rw [List.length_drop] at hx
      rw [List.getElem_drop]
      exact hrest _ (by omega) (by omega)
    · rw [if_neg hh] at hb
      obtain ⟨x, hx, rfl⟩ := List.mem_iff_getElem.1 hb
      rw [List.length_drop] at hx
      rw [List.getElem_drop]
      rcases Nat.eq_zero_or_pos x with hx0 | hx0
      · subst hx0
        have hp : posT T n < T.length := by omega
        have g1 := posT_ge hp
        have hne : T[posT T n].name ≠ n := fun e => hh (by unfold hitT; rw [List.getElem?_eq_getElem hp]; simp [e])
        simp only [Nat.add_zero]
        cases hc : lessS n T[posT T n].name with
        | true => rfl
        | false => exact absurd (lessS_total _ _ g1 hc) hne
      · exact hrest _ (by omega) (by omega)
theorem sorted_step {T : Tab} (hs : sorted T) (c : Chg) : sorted (stepT T c) := by
  obtain ⟨h1, h2⟩ := posT_split hs c.name
  have hd : (if hitT T c.name then T.drop (posT T c.name + 1) else T.drop (posT T c.name)).Sublist T := by
    split
    · exact List.drop_sublist _ _
    · exact List.drop_sublist _ _
  unfold stepT sorted
  rw [List.pairwise_append]
  refine ⟨hs.sublist (List.take_sublist _ _), ?_, ?_⟩
  · rw [List.pairwise_append]
    refine ⟨?_, hs.sublist hd, ?_⟩
    · unfold midT; split <;> simp
    · intro a ha b hb
      unfold midT at ha
      split at ha
      · cases ha
      · rw [List.mem_singleton.1 ha]; exact h2 b hb
  · intro a ha b hb
    rcases List.mem_append.1 hb with hb | hb
    · unfold midT at hb
      split at hb
      · cases hb
      · rw [List.mem_singleton.1 hb]; exact h1 a ha
    · exact lessS_trans _ _ _ (h1 a ha) (h2 b hb)
theorem step_len (T : Tab) (c : Chg) : (stepT T c).length ≤ T.length + 1 := by
  have hm : (midT c).length ≤ 1 := by unfold midT; split <;> simp
  have hp := posT_le T c.name
  unfold stepT
  rw [List.length_append, List.length_append, List.length_take]
  split
  · rw [List.length_drop]; omega
  · rw [List.length_drop]; omega
theorem step_mem {T : Tab} {c : Chg} {b : Br} (h : b ∈ stepT T c) : b ∈ T ∨ (b = ⟨c.name, c.new⟩ ∧ c.new ≠ []) := by
  unfold stepT at h
  rcases List.mem_append.1 h with h | h
  · exact .inl (List.mem_of_mem_take h)
  · rcases List.mem_append.1 h with h | h
    · unfold midT at h
      split at h
      · cases h
      · rename_i hn; exact .inr ⟨List.mem_singleton.1 h, hn⟩
    · split at h
      · exact .inl (List.mem_of_mem_drop h)
      · exact .inl (List.mem_of_mem_drop h)
/-- Every table on the way. -/
structure Way (T : Tab) (k : Nat) : Prop where
  sorted : sorted T
  len : T.length ≤ 32 + k
  fit : ∀ b ∈ T, BFit b
theorem Way.step {T : Tab} {k : Nat} (h : Way T k) {c : Chg} (hc : CFit1 c) : Way (stepT T c) (k + 1) :=
  ⟨sorted_step h.sorted c, by have := step_len T c; have := h.len; omega, fun b hb => by
    rcases step_mem hb with hb | ⟨rfl, _⟩
    · exact h.fit b hb
    · exact ⟨hc.name, hc.new⟩⟩
theorem foldl_step : ∀ (C : List Chg) (T : Tab), sorted T → C.foldl stepT T = putsT T C
  | [], _, _ => rfl
  | c :: C, T, hs => by
    unfold putsT
    rw [List.foldl_cons, List.foldl_cons, step_put hs]
    have := foldl_step C (putT T c.name c.new) (by rw [← step_put hs]; exact sorted_step hs c)
    exact this
/-! ### cells -/
theorem tCells_split : ∀ (T : Tab) (vs : List Value) (i : Nat), vs.length = T.length → (tCells T vs).take (i * 2) = tCells (T.take i) (vs.take i) ∧ (tCells T vs).drop (i * 2) = tCells (T.drop i) (vs.drop i)
  | T, vs, 0, _ => by simp [tCells]
  | [], [], i + 1, _ => by simp [tCells]
  | [], _ :: _, _, h => by simp at h
  | _ :: _, [], _, h => by simp at h
  | b :: T, v :: vs, i + 1, h => by
    obtain ⟨h1, h2⟩ := tCells_split T vs i (by simpa using h)
    rw [show (i + 1) * 2 = i * 2 + 1 + 1 by omega]
    simp only [tCells, List.take_succ_cons, List.drop_succ_cons, h1, h2, and_self]
theorem tCells_one {w : World} {base : Nat} : ∀ (T : Tab) (vs : List Value), vs.length = T.length → (∀ (k : Nat) b u, T[k]? = some b → vs[k]? = some u → HdIs w (DgAt w base) u b.heads) → ∀ u ∈ tCells T vs, u.oneCell' = true
  | [], _, _, _ => by simp [tCells]
  | _ :: _, [], h, _ => by simp at h
  | b :: T, v :: vs, h, hh => by
    intro u hu
    simp only [tCells, List.mem_cons] at hu
    rcases hu with rfl | rfl | hu
    · rfl
    · obtain ⟨A, c, e, _⟩ := hh 0 b _ rfl rfl
      rw [e]; rfl
    · exact tCells_one T vs (by simpa using h) (fun k b u h1 h2 => hh (k + 1) b u (by simpa using h1) (by simpa using h2)) u hu
end Go.Proofs.YtlenmkemjaaaoaaDoor
end

section
/- A table of one's own that is cut and filled; the walk of refs.Apply, first half. -/
namespace Go.Proofs.YtlenmkemjaaaoaaDoor
open Go.RowKit

theorem zip_all {α β : Type} {P : α → β → Prop} : ∀ (T : List α) (vs : List β), (∀ (k : Nat) b u, T[k]? = some b → vs[k]? = some u → P b u) ↔ ∀ p ∈ T.zip vs, P p.1 p.2 := fun T vs => by
  constructor
  · intro h p hp
    obtain ⟨k, hk, rfl⟩ := List.mem_iff_getElem.1 hp
    rw [List.length_zip] at hk
    rw [List.getElem_zip]
    exact h k _ _ (List.getElem?_eq_getElem (by omega)) (List.getElem?_eq_getElem (by omega))
  · intro h k b u h1 h2
    obtain ⟨l1, e1⟩ := List.getElem?_eq_some_iff.1 h1
    obtain ⟨l2, e2⟩ := List.getElem?_eq_some_iff.1 h2
    have : (b, u) ∈ T.zip vs := List.mem_iff_getElem.2 ⟨k, by rw [List.length_zip]; omega, by rw [List.getElem_zip, e1, e2]⟩
    exact h _ this
theorem zip_take_mem {α β : Type} {T : List α} {vs : List β} {i : Nat} {p : α × β} (h : p ∈ (T.take i).zip (vs.take i)) : p ∈ T.zip vs := by
  obtain ⟨k, hk, rfl⟩ := List.mem_iff_getElem.1 h
  rw [List.length_zip, List.length_take, List.length_take] at hk
  rw [List.getElem_zip, List.getElem_take, List.getElem_take]
  exact List.mem_iff_getElem.2 ⟨k, by rw [List.length_zip]; omega, by rw [List.getElem_zip]⟩
theorem zip_drop_mem {α β : Type} {T : List α} {vs : List β} {i : Nat} {p : α × β} (h : p ∈ (T.drop i).zip (vs.drop i)) : p ∈ T.zip vs := by
  obtain ⟨k, hk, rfl⟩ := List.mem_iff_getElem.1 h
  rw [List.length_zip, List.length_drop, List.length_drop] at hk
  rw [List.getElem_zip, List.getElem_drop, List.getElem_drop]
  exact List.mem_iff_getElem.2 ⟨i + k, by rw [List.length_zip]; omega, by rw [List.getElem_zip]⟩
/-- A row's parts, and what is put between them. -/
theorem OwnTab.parts {w' : World} {base : Nat} {v' : Value} {T M : Tab} {vs ms : List Value} {i j : Nat} (hl : vs.length = T.length) (hml : ms.length = M.length) (hi : i ≤ T.length)
    (hh : ∀ (k : Nat) b u, T[k]? = some b → vs[k]? = some u → HdIs w' (DgAt w' base) u b.heads) (hm : ∀ (k : Nat) b u, M[k]? = some b → ms[k]? = some u → HdIs w' (DgAt w' base) u b.heads)
    {n : Nat} (hn : n = i + M.length + (T.length - j)) (hrow : w'.ownsRow base 61 2 v' n ((tCells T vs).take (i * 2) ++ tCells M ms ++ (tCells T vs).drop (j * 2))) : OwnTab w' base v' (T.take i ++ M ++ T.drop j) := by
  have l1 : (vs.take i).length = (T.take i).length := by rw [List.length_take, List.length_take, hl]
  have l2 : (vs.drop j).length = (T.drop j).length := by rw [List.length_drop, List.length_drop, hl]
  refine ⟨vs.take i ++ ms ++ vs.drop j, by simp only [List.length_append, l1, l2, hml], ?_, ?_⟩
  · have e : tCells (T.take i ++ M ++ T.drop j) (vs.take i ++ ms ++ vs.drop j) = (tCells T vs).take (i * 2) ++ tCells M ms ++ (tCells T vs).drop (j * 2) := by
      rw [tCells_app _ _ (by simp only [List.length_append, l1, hml]), tCells_app _ _ l1, (tCells_split T vs i hl).1, (tCells_split T vs j hl).2]
    rw [e]
    have en : (T.take i ++ M ++ T.drop j).length = n := by
      simp only [List.length_append, List.length_take, List.length_drop, hn]; omega
    rw [en]
    exact hrow
  · have h1 := (zip_all T vs).1 hh
    have h2 := (zip_all M ms).1 hm
    refine (zip_all _ _).2 (fun p hp => ?_)
    rw [List.zip_append (by simp only [List.length_append, l1, hml]), List.zip_append l1.symm] at hp
    rcases List.mem_append.1 hp with hp | hp
    · rcases List.mem_append.1 hp with hp | hp
      · exact h1 p (zip_take_mem hp)
      · exact h2 p hp
    · exact h1 p (zip_drop_mem hp)
theorem ChsIs.take {w : World} {ok : Nat → Prop} {A : Option Addr} {n c : Nat} {C : List Chg} (h : ChsIs w ok (.slice A n c) C) (k : Nat) (hk : k ≤ C.length) : ChsIs w ok (.slice A k c) (C.take k) := by
  obtain ⟨A', c', vs, hl, e, hc, hr, hh⟩ := h
  injection e with e1 e2 e3
  subst e1; subst e3
  have lk : (C.take k).length = k := by rw [List.length_take]; omega
  have lv : (vs.take k).length = k := by rw [List.length_take, hl]; omega
  refine ⟨A, c, vs.take k, by rw [lk, lv], by rw [lk], by rw [lk]; omega, ?_, fun i b u h1 h2 => ?_⟩
  · have e : cCells (C.take k) (vs.take k) = (cCells C vs).take (k * 3) := by
      have ha := cCells_app (C.take k) (vs.take k) (by rw [lk, lv]) (C.drop k) (vs.drop k)
      rw [List.take_append_drop, List.take_append_drop] at ha
      have hll := cCells_len (C.take k) (vs.take k) (by rw [lk, lv])
      rw [lk] at hll
      rw [ha, List.take_left' hll]
    rw [e]
    exact hr.take _
  · have hi : i < k := by
      have := (List.getElem?_eq_some_iff.1 h1).1
      omega
    rw [List.getElem?_take_of_lt hi] at h1 h2
    exact hh i b u h1 h2
theorem wrongs_at (T : Tab) (C : List Chg) (k : Nat) (hk : k < C.length) : wrongsE T (C.take k) (C.drop k) = if wrongE T (C.take k) C[k] = 0 then wrongsE T (C.take (k + 1)) (C.drop (k + 1)) else wrongE T (C.take k) C[k] := by
  rw [List.drop_eq_getElem_cons hk]
  conv => lhs; unfold wrongsE
  rw [take_at hk]
def zeroCh : List Value := [.string ⟨#[]⟩, .slice none 0 0, .slice none 0 0]
/-- What Apply gives. -/
def ApplyTo (w : World) (T : Tab) (C : List Chg) (e : Ending) (w' : World) : Prop := ∃ v, e = .returned (.tuple #[v, .int .i64 (applyE T C)]) ∧ OwnTab w' w.heap.size v (applyT T C) ∧ Below w.heap.size w w'
theorem apply_bad {w w' : World} {T : Tab} {C : List Chg} {x : Int} (he : applyE T C = x) (hx : x ≠ 0) (hb : Below w.heap.size w w') {e : Ending} (h : e = .returned (.tuple #[.slice none 0 0, .int .i64 x])) : ApplyTo w T C e w' := by
  refine ⟨.slice none 0 0, by rw [h, he], ?_, hb⟩
  unfold applyT
  rw [if_neg (by rw [he]; exact hx)]
  exact OwnTab.nil
end Go.Proofs.YtlenmkemjaaaoaaDoor
end

section
/- The walk of refs.Apply. -/
namespace Go.Proofs.YtlenmkemjaaaoaaDoor
open Go.RowKit

theorem three_cells {w : World} {b o : Nat} {x y z : Value} (h : ∀ j u, [x, y, z][j]? = some u → w.cell? ⟨b, o + j, none⟩ = some u) : w.cell? ⟨b, o, none⟩ = some x ∧ w.cell? ⟨b, o + 1, none⟩ = some y ∧ w.cell? ⟨b, o + 2, none⟩ = some z := ⟨h 0 _ rfl, h 1 _ rfl, h 2 _ rfl⟩
set_option maxRecDepth 100000 in
set_option maxHeartbeats 8000000 in
theorem apply_any (T : Tab) (C : List Chg) (v u : Value) (ok ok' : Nat → Prop) (w : World) (h : TabIs w ok v T) (hf : TFit T) (h' : ChsIs w ok' u C) (hc : CFit C) :
    Calls Tryd.prog 21 #[v, u] w (ApplyTo w T C) := by
  obtain ⟨A, tc, rfl, htc⟩ := h.form
  obtain ⟨CA, cc, rfl, hcc⟩ := h'.form
  have hmay := Lib.hid (may_any T _ ok w h hf)
  have hlT := hf.len
  have hlC := hc.len
  have hAE : applyE T C = if mayE T = 0 then (if 32 < C.length then 4 else if wrongsE T [] C = 0 then (if 32 < (putsT T C).length then 4 else 0) else wrongsE T [] C) else mayE T := rfl
  by_cases hm : mayE T = 0
  · rw [if_pos hm] at hAE
    obtain ⟨ml, mb, ms⟩ := (mayE_zero T).1 hm
    rw [hm] at hmay
    clear hm
    by_cases h32 : 32 < C.length
    · rw [if_pos h32] at hAE
      replace hAE := Lib.hid hAE
      clear h h' hf hc
      go_enter Tryd.func21, Tryd.ntmps21
      go_wp2_with fail
      refine hmay.out.mono ?_
      rintro e w1 ⟨rfl, hb1⟩
      replace hb1 := Lib.hid hb1
      go_wp2
      go_ret2
      exact apply_bad hAE.out (by decide) hb1.out rfl
    · rw [if_neg h32] at hAE
      have hC32 : C.length ≤ 32 := by omega
      have hT := Lib.hid h.ltB
      have hCh := Lib.hid h'.ltB
      replace hf := Lib.hid hf
      replace hc := Lib.hid hc
      replace ms := Lib.hid ms
      replace mb := Lib.hid mb
      replace hAE := Lib.hid hAE
      clear h h' h32
      go_enter Tryd.func21, Tryd.ntmps21
      go_wp2_with fail
      refine hmay.out.mono ?_
      rintro e w1 ⟨rfl, hb1⟩
      clear hmay
      go_wp2_with fail
      go_loopw [25] (fun i wr => ∃ k : Nat, k ≤ C.length ∧ i = .int .i64 k ∧ Hid (wrongsE T [] C = wrongsE T (C.take k) (C.drop k)) ∧ Below w.heap.size w wr) (fun i _ => C.length - (intOf i).toNat)
      case atStart => exact ⟨0, Nat.zero_le _, rfl, Lib.hid rfl, hb1⟩
      case round =>
        clear hb1
        obtain ⟨k, hk, rfl, hw, hb⟩ := hrel
        by_cases hlt : k < C.length
        · have hT1 := hT.out.low hb
          have hC1 := hCh.out.low hb
          obtain ⟨b, o, x, y, rfl, hbl, _, hX, hY, hcells⟩ := hC1.ch k hlt
          have hat := wrongs_at T C k hlt
          rw [← hw.out] at hat
          have hc1 := hc.out.ok C[k] (List.getElem_mem hlt)
          have hCt := hC1.take k (by omega)
          obtain ⟨c, hcc2⟩ : ∃ c, c = C[k] := ⟨_, rfl⟩
          rw [← hcc2] at hX hY hcells hat hc1
          have hbox := (Blk.new_at (w := wr) (g := wr.heap.size) (t := 46) (cs := zeroCh) rfl).setRow_same [strV c.name, x, y]
          have hbx1 : Below wr.heap.size wr ((wr.alloc (.cells zeroCh.toArray 46)).setRow wr.heap.size [strV c.name, x, y].toArray) := below_setRow ((Below.refl _ _).alloc (Nat.le_refl _) _) (Nat.le_refl _) _
          obtain ⟨W1, hW1⟩ : ∃ W1, W1 = (wr.alloc (.cells zeroCh.toArray 46)).setRow wr.heap.size [strV c.name, x, y].toArray := ⟨_, rfl⟩
          rw [← hW1] at hbox hbx1
          replace hW1 := Lib.hid hW1
          have hbW := hb.trans (hbx1.mono hb.size)
          have hcall := Lib.hid (fun s : Over W1 => wrong_any T (C.take k) c (.slice A T.length tc) (.slice (some ⟨b, o, none⟩) k cc) x y _ _ _ s.1 ((hT1.stayB hbx1).stayB s.2) hf.out ms.out ((hCt.stayB hbx1).stayB s.2) (by rw [List.length_take]; omega) ((hX.stayB hbx1).stayB s.2) ((hY.stayB hbx1).stayB s.2) hc1)
          obtain ⟨XA, xc, rfl, _, _⟩ := id hX
          obtain ⟨YA, yc, rfl, _, _⟩ := id hY
          have hone : Hid (∀ v ∈ [strV c.name, Value.slice XA c.old.length xc, Value.slice YA c.new.length yc], v.oneCell' = true) := Lib.hid (by simp [strV, Value.oneCell'])
          replace hcells := Lib.hid hcells
          have hbox' := Lib.hid (fun s : Over W1 => blk_over hbox s)
          obtain ⟨z, hz⟩ : ∃ z, z = wrongE T (C.take k) c := ⟨_, rfl⟩
          rw [← hz] at hcall hat
          replace hat := Lib.hid hat
          have i1 : (0 : Int) ≤ (k : Int) := by omega
          have i2 : (k : Int) < (C.length : Int) := by omega
          have hs2 := fun w => run_slice_to (P := Tryd.prog) w 37 46 3 Tryd.underlying37 chSz (some ⟨b, o, none⟩) C.length cc k (by omega)
          clear hT1 hC1 hX hY hCt hw hz hcc2 hc1 hb
          replace hs2 := Lib.hid hs2
          go_wp2_with (first
            | (refine wpList_load_at 46 (.tmp 28) rfl rfl b (o + k * 3) rfl [strV c.name, .slice XA c.old.length xc, .slice YA c.new.length yc] hcells.out _ Tryd.underlying46 rfl chSz ?_; go_frame)
            | (refine wpList_store_blk rfl 46 (.tmp 8) (.tmp 29) rfl wr.heap.size [strV c.name, .slice XA c.old.length xc, .slice YA c.new.length yc] rfl rfl 46 zeroCh (Blk.new_at rfl) rfl chSz hone.out ?_; rw [show (wr.alloc (Obj.cells #[Value.string ⟨#[]⟩, Value.slice none 0 0, Value.slice none 0 0] 46)).setRow wr.heap.size [strV c.name, .slice XA c.old.length xc, .slice YA c.new.length yc].toArray = W1 from hW1.out.symm]; go_frame))
          haveI := over_nonempty W1
          refine quiet_over (by kernel_rfl) (by kernel_rfl) ?_
          repeat (first
            | (refine wpQuiet_run (Op.slice 37 (.tmp 31) none (some (.tmp 32)) none) rfl rfl (.slice (some ⟨b, o, none⟩) k cc) (fun w _ => ?_) ?_
               · exact (congrArg (fun r => Result.andThen r _) (hs2.out w))
               go_frame)
            | (refine wpQuiet_load_part 46 (.tmp 8) rfl rfl wr.heap.size 0 rfl 46 [strV c.name, .slice XA c.old.length xc, .slice YA c.new.length yc] [strV c.name, .slice XA c.old.length xc, .slice YA c.new.length yc] [] (fun w hw => ?_) rfl _ Tryd.underlying46 rfl chSz ?_
               · obtain ⟨s, rfl⟩ := hw
                 exact hbox'.out s
               go_frame)
            | go_big_quiet_step ((go_at_call 47; exact calls_over _ (hcall.out _))))
          refine wpQuiet_nil ?_
          rintro _ ⟨s, rfl⟩
          have hb4 := hbW.trans (s.2.mono hbW.size)
          obtain ⟨w4, hw4⟩ := s
          dsimp only at hb4 ⊢
          clear this hw4 hcall hbox' hs2 hbox hbx1 hbW hW1
          by_cases hz0 : z = 0
          · subst hz0
            have hnext : Hid (wrongsE T [] C = wrongsE T (C.take (k + 1)) (C.drop (k + 1))) := Lib.hid (hat.out.trans (if_pos rfl))
            clear hat
            go_wp2
            go_roundw
            case rel => exact ⟨k + 1, by omega, by go_num, hnext, hb4⟩
            case measure => simp [intOf]; omega
          · have g1 : (z != 0) = true := by simpa using hz0
            have hwz : wrongsE T [] C = z := by rw [hat.out, if_neg hz0]
            have hfin : Hid (applyE T C = z) := Lib.hid (by rw [hAE.out, hwz, if_neg hz0])
            replace hz0 := Lib.hid hz0
            clear hat hwz
            go_wp2
            go_ret2
            exact apply_bad hfin.out hz0.out hb4 rfl
        · obtain rfl : k = C.length := by omega
          have hw0 : wrongsE T [] C = 0 := by rw [hw.out, List.drop_length]; rfl
          have hAE2 : Hid (applyE T C = if 32 < (putsT T C).length then 4 else 0) := Lib.hid (by rw [hAE.out, if_pos hw0])
          have how := Lib.hid (own_any T _ _ wr (hT.out.low hb) hf.out)
          clear hw hw0 hAE
          go_wp2_with fail
          refine how.out.mono ?_
          rintro e w2 ⟨ov, rfl, hO, hb2⟩
          have hsz := hb.size
          replace hO := Lib.hid (hO.lower hsz)
          have hb3 := hb.trans (hb2.mono hsz)
          obtain ⟨OA, oc, rfl, _⟩ := hO.out.form
          have hway : Hid (Way T 0) := Lib.hid ⟨ms.out, ml, hf.out.ok⟩
          clear hb hb2 how
          go_wp2_with fail
          go_loopw [44, 10] (fun i o wr => ∃ k : Nat, k ≤ C.length ∧ i = .int .i64 k ∧ OwnTab wr w.heap.size o ((C.take k).foldl stepT T) ∧ Hid (Way ((C.take k).foldl stepT T) k) ∧ Below w.heap.size w wr) (fun i _ _ => C.length - (intOf i).toNat)
          case atStart => exact ⟨0, Nat.zero_le _, rfl, hO.out, hway, hb3⟩
          case round =>
            clear hO hb3 hway hsz
            obtain ⟨k, hk, rfl, hO, hway, hb⟩ := hrel
            by_cases hlt : k < C.length
            · have hC1 := hCh.out.low hb
              obtain ⟨b, o, x, y, rfl, hbl, _, hX, hY, hcells⟩ := hC1.ch k hlt
              have hc1 := hc.out.ok C[k] (List.getElem_mem hlt)
              have hfk : Hid ((C.take (k + 1)).foldl stepT T = stepT ((C.take k).foldl stepT T) C[k]) := Lib.hid (by rw [take_at hlt, List.foldl_append]; rfl)
              obtain ⟨c, hcc2⟩ : ∃ c, c = C[k] := ⟨_, rfl⟩
              rw [← hcc2] at hX hY hcells hc1 hfk
              obtain ⟨T0, hT0⟩ : ∃ T0, T0 = (C.take k).foldl stepT T := ⟨_, rfl⟩
              rw [← hT0] at hO hway hfk
              clear hcc2 hT0
              have hwn : Hid (Way (stepT T0 c) (k + 1)) := Lib.hid (hway.out.step hc1)
              have hl0 : T0.length ≤ 64 := by have := hway.out.len; omega
              have hs0 := Lib.hid hway.out.sorted
              have hbox := (Blk.new_at (w := wr) (g := wr.heap.size) (t := 46) (cs := zeroCh) rfl).setRow_same [strV c.name, x, y]
              have hbx1 : Below wr.heap.size wr ((wr.alloc (.cells zeroCh.toArray 46)).setRow wr.heap.size [strV c.name, x, y].toArray) := below_setRow ((Below.refl _ _).alloc (Nat.le_refl _) _) (Nat.le_refl _) _
              obtain ⟨W1, hW1⟩ : ∃ W1, W1 = (wr.alloc (.cells zeroCh.toArray 46)).setRow wr.heap.size [strV c.name, x, y].toArray := ⟨_, rfl⟩
              rw [← hW1] at hbox hbx1
              replace hW1 := Lib.hid hW1
              have hbW := hb.trans (hbx1.mono hb.size)
              obtain ⟨XA, xc, rfl, _, _⟩ := id hX
              obtain ⟨YA, yc, rfl, _, _⟩ := id hY
              have hone : Hid (∀ v ∈ [strV c.name, Value.slice XA c.old.length xc, Value.slice YA c.new.length yc], v.oneCell' = true) := Lib.hid (by simp [strV, Value.oneCell'])
              replace hcells := Lib.hid hcells
              have hO1 := hO.keepB hbx1
              obtain ⟨vs, hvl, hrow, hheads⟩ := hO1
              obtain ⟨FA, fc, rfl, _, _⟩ := own_form hrow
              have hneb : ∀ g, (Value.slice FA T0.length fc).ownBlock = some g → g < wr.heap.size := by
                obtain ⟨_, _, ho, _⟩ := hO
                exact fun g hg => (ho.lt g hg).2
              have hat := Lib.hid (at_any T0 _ c.name _ W1 (OwnTab.tab ⟨vs, hvl, hrow, hheads⟩) (by omega) hs0.out)
              have hple := posT_le T0 c.name
              have hY1 := (hY.stayB hbx1)
              have d0 : W1.cell? ⟨wr.heap.size, 0, none⟩ = some (.string ⟨c.name.toArray⟩) := by rw [hbox.cell]; rfl
              have hgl : wr.heap.size < W1.heap.size := hbox.lt
              have i1 : (0 : Int) ≤ (k : Int) := by omega
              have i2 : (k : Int) < (C.length : Int) := by omega
              replace hrow := Lib.hid hrow
              replace hheads := Lib.hid hheads
              replace hvl := Lib.hid hvl
              replace hneb := Lib.hid hneb
              replace hY1 := Lib.hid hY1
              replace hbox := Lib.hid hbox
              replace hbW := Lib.hid hbW
              clear hO hC1 hX hY hb hbx1
              unfold strV at hat
              go_wp2_with (first
                | (refine wpList_load_at 46 (.tmp 46) rfl rfl b (o + k * 3) rfl [strV c.name, .slice XA c.old.length xc, .slice YA c.new.length yc] hcells.out _ Tryd.underlying46 rfl chSz ?_; go_frame)
                | (refine wpList_store_blk rfl 46 (.tmp 12) (.tmp 47) rfl wr.heap.size [strV c.name, .slice XA c.old.length xc, .slice YA c.new.length yc] rfl rfl 46 zeroCh (Blk.new_at rfl) rfl chSz hone.out ?_; rw [show (wr.alloc (Obj.cells #[Value.string ⟨#[]⟩, Value.slice none 0 0, Value.slice none 0 0] 46)).setRow wr.heap.size [strV c.name, .slice XA c.old.length xc, .slice YA c.new.length yc].toArray = W1 from hW1.out.symm]; go_frame))
              refine hat.out.mono ?_
              rintro e w4 ⟨rfl, hb4⟩
              have hrow4 := own_touch (L := []) hrow.out (Touch.ofBelow hb4) (by simp)
              have hh4 := Lib.hid (fun k b u h1 h2 => (hheads.out k b u h1 h2).keepB hb4)
              have hbox4 := hbox.out.below hb4 hgl
              have hY4 := Lib.hid (hY1.out.stayB hb4)
              have hbW4 := Lib.hid (hbW.out.trans (hb4.mono hbW.out.size))
              have hg4 : wr.heap.size < w4.heap.size := hbox4.lt
              clear hb4 hat hrow hheads hbox hY1 hbW hW1 d0 hgl
              have hst : stepT T0 c = T0.take (posT T0 c.name) ++ (midT c ++ (if hitT T0 c.name then T0.drop (posT T0 c.name + 1) else T0.drop (posT T0 c.name))) := rfl
              have hhp : hitT T0 c.name = true → posT T0 c.name < T0.length := fun e => by
                rcases Nat.lt_or_ge (posT T0 c.name) T0.length with h | h
                · exact h
                · unfold hitT at e; rw [List.getElem?_eq_none h] at e; cases e
              obtain ⟨hit, hhit⟩ : ∃ hit, hit = hitT T0 c.name := ⟨_, rfl⟩
              obtain ⟨p, hp⟩ : ∃ p, p = posT T0 c.name := ⟨_, rfl⟩
              rw [← hhit, ← hp] at hst hhp
              rw [← hhit, ← hp]
              rw [← hp] at hple
              replace hst := Lib.hid hst
              clear hhit hp
              have i3 : (0 : Int) ≤ (p : Int) := by omega
              have i4 : (p : Int) ≤ (T0.length : Int) := by omega
              have hone0 := Lib.hid (tCells_one T0 vs hvl.out hh4.out)
              -- the row behind what was there
              have hdel : ∃ T1 vs1, Hid (hit = true → p < T0.length) ∧ vs1.length = T1.length ∧ T1.length ≤ 64 ∧ p ≤ T1.length ∧ stepT T0 c = T1.take p ++ midT c ++ T1.drop p ∧ (hit = false → T1 = T0 ∧ vs1 = vs) ∧ (hit = true → T1.length = T0.length - 1 ∧ tCells T1 vs1 = (tCells T0 vs).take (p * 2) ++ (tCells T0 vs).drop ((p + 1) * 2)) ∧ (∀ w5, (∀ (k : Nat) b u, T0[k]? = some b → vs[k]? = some u → HdIs w5 (DgAt w5 w.heap.size) u b.heads) → ∀ (k : Nat) b u, T1[k]? = some b → vs1[k]? = some u → HdIs w5 (DgAt w5 w.heap.size) u b.heads) := by
                cases hit with
                | false => exact ⟨T0, vs, Lib.hid (fun e => by cases e), hvl.out, hl0, hple, by rw [hst.out, List.append_assoc]; rfl, fun _ => ⟨rfl, rfl⟩, (fun e => by cases e), fun _ h => h⟩
                | true =>
                  have hpl := hhp rfl
                  have l1 : (vs.take p).length = (T0.take p).length := by rw [List.length_take, List.length_take, hvl.out]
                  have l2 : (vs.drop (p + 1)).length = (T0.drop (p + 1)).length := by rw [List.length_drop, List.length_drop, hvl.out]
                  have tl : (T0.take p).length = p := by rw [List.length_take]; omega
                  refine ⟨T0.take p ++ T0.drop (p + 1), vs.take p ++ vs.drop (p + 1), Lib.hid (fun _ => hpl), by simp only [List.length_append, l1, l2], by simp only [List.length_append, List.length_take, List.length_drop]; omega, by simp only [List.length_append, tl]; omega, ?_, (fun e => by cases e), fun _ => ⟨by simp only [List.length_append, List.length_take, List.length_drop]; omega, ?_⟩, fun w5 h5 => ?_⟩
                  · rw [hst.out, List.take_left' tl, List.drop_left' tl, List.append_assoc]; rfl
                  · rw [tCells_app _ _ l1, (tCells_split T0 vs p hvl.out).1, (tCells_split T0 vs (p + 1) hvl.out).2]
                  · have h1 := (zip_all T0 vs).1 h5
                    refine (zip_all _ _).2 (fun q hq => ?_)
                    rw [List.zip_append l1.symm] at hq
                    rcases List.mem_append.1 hq with hq | hq
                    · exact h1 q (zip_take_mem hq)
                    · exact h1 q (zip_drop_mem hq)
              obtain ⟨T1, vs1, hpT0, hv1l, hl1, hple1, hst1, hno, hyes, hheads1⟩ := hdel
              replace hst1 := Lib.hid hst1
              replace hno := Lib.hid hno
              replace hyes := Lib.hid hyes
              replace hheads1 := Lib.hid hheads1
              replace hv1l := Lib.hid hv1l
              clear hst hhp
              have hbx4 := Lib.hid hbox4
              have hdl := Lib.hid (fun (e : hit = true) => delete_any w.heap.size _ T0.length p (tCells T0 vs) w4 hrow4 (hpT0.out e) (by omega) hone0.out)
              by_cases hnw : c.new.length = 0
              · have hmid : Hid (midT c = []) := Lib.hid (by unfold midT; rw [if_pos (List.eq_nil_of_length_eq_zero hnw)])
                have d1 : decide (0 < (c.new.length : Int)) = false := decide_eq_false (by omega)
                cases hit
                focus
                  obtain ⟨hTe, hve⟩ := hno.out (by first | trivial | rfl)
                  subst hTe
                  subst hve
                  have hrow5 := Lib.hid hrow4
                  have hh5 := hh4
                  have hbox5 := hbx4.out
                  have hY5 := hY4
                  have hb5 := hbW4
                  have hne5 : Hid (∀ g, (Value.slice FA T1.length fc).ownBlock = some g → g ≠ wr.heap.size) := Lib.hid (fun g hg => by have := hneb.out g hg; omega)
                  obtain ⟨w5, hw5⟩ : ∃ w5, w5 = w4 := ⟨_, rfl⟩
                  subst hw5
                  obtain ⟨VA, hVA⟩ : ∃ VA, VA = FA := ⟨_, rfl⟩
                  subst hVA
                  obtain ⟨vc, hvc⟩ : ∃ vc, vc = fc := ⟨_, rfl⟩
                  subst hvc
                  clear hyes hpT0 hdl
                rotate_left
                focus
                  go_wp2_with fail
                  refine (hdl.out (by first | trivial | rfl)).mono ?_
                  rintro e w5 ⟨V, rfl, hrow5, hg5, hown5⟩
                  obtain ⟨hle, hce⟩ := hyes.out (by first | trivial | rfl)
                  rw [← hle, ← hce] at hrow5
                  obtain ⟨VA, vc, rfl, _, _⟩ := own_form hrow5
                  have hbox5 := hbx4.out.grown hg5 (fun e => by have := hneb.out _ e.symm; omega)
                  have hb5 := Lib.hid (hbW4.out.trans (own_below hrow4 hg5 hbW4.out.size))
                  have hY5 := Lib.hid (hY4.out.low (own_below hrow4 hg5 hbW4.out.size))
                  have hh5 := Lib.hid (hheads1.out w5 (fun k b u h1 h2 => (hh4.out k b u h1 h2).keepRow hrow4 (by decide) hg5))
                  have hne5 : Hid (∀ g, (Value.slice VA T1.length vc).ownBlock = some g → g ≠ wr.heap.size) := Lib.hid (fun g hg => by
                    rcases hown5 with h | h
                    · rw [h] at hg; have := hneb.out g hg; omega
                    · have := h g hg; omega)
                  replace hrow5 := Lib.hid hrow5
                  clear hg5 hown5 hle hce hno hpT0 hdl
                all_goals
                  have e2 : w5.cell? ⟨wr.heap.size, 2, none⟩ = some (.slice YA c.new.length yc) := by rw [hbox5.cell]; rfl
                  go_wp2
                  go_roundw
                  case rel =>
                    refine ⟨k + 1, by omega, by go_num, ?_, ?_, hb5.out⟩
                    · rw [hfk.out, hst1.out, hmid.out, List.append_nil, List.take_append_drop]
                      exact ⟨vs1, hv1l.out, hrow5.out, hh5.out⟩
                    · rw [hfk.out]; exact hwn
                  case measure => simp [intOf]; omega
              · have d1 : decide (0 < (c.new.length : Int)) = true := decide_eq_true (by omega)
                have hmid : Hid (midT c = [⟨c.name, c.new⟩]) := Lib.hid (by unfold midT; rw [if_neg (fun e => hnw (by rw [e]; rfl))])
                cases hit
                focus
                  obtain ⟨hTe, hve⟩ := hno.out (by first | trivial | rfl)
                  subst hTe
                  subst hve
                  have hrow5 := Lib.hid hrow4
                  have hh5 := hh4
                  have hbox5 := hbx4.out
                  have hY5 := hY4
                  have hb5 := hbW4
                  have hne5 : Hid (∀ g, (Value.slice FA T1.length fc).ownBlock = some g → g ≠ wr.heap.size) := Lib.hid (fun g hg => by have := hneb.out g hg; omega)
                  obtain ⟨w5, hw5⟩ : ∃ w5, w5 = w4 := ⟨_, rfl⟩
                  subst hw5
                  obtain ⟨VA, hVA⟩ : ∃ VA, VA = FA := ⟨_, rfl⟩
                  subst hVA
                  obtain ⟨vc, hvc⟩ : ∃ vc, vc = fc := ⟨_, rfl⟩
                  subst hvc
                  clear hyes hpT0 hdl
                rotate_left
                focus
                  go_wp2_with fail
                  refine (hdl.out (by first | trivial | rfl)).mono ?_
                  rintro e w5 ⟨V, rfl, hrow5, hg5, hown5⟩
                  obtain ⟨hle, hce⟩ := hyes.out (by first | trivial | rfl)
                  rw [← hle, ← hce] at hrow5
                  obtain ⟨VA, vc, rfl, _, _⟩ := own_form hrow5
                  have hbox5 := hbx4.out.grown hg5 (fun e => by have := hneb.out _ e.symm; omega)
                  have hb5 := Lib.hid (hbW4.out.trans (own_below hrow4 hg5 hbW4.out.size))
                  have hY5 := Lib.hid (hY4.out.low (own_below hrow4 hg5 hbW4.out.size))
                  have hh5 := Lib.hid (hheads1.out w5 (fun k b u h1 h2 => (hh4.out k b u h1 h2).keepRow hrow4 (by decide) hg5))
                  have hne5 : Hid (∀ g, (Value.slice VA T1.length vc).ownBlock = some g → g ≠ wr.heap.size) := Lib.hid (fun g hg => by
                    rcases hown5 with h | h
                    · rw [h] at hg; have := hneb.out g hg; omega
                    · have := h g hg; omega)
                  replace hrow5 := Lib.hid hrow5
                  clear hg5 hown5 hle hce hno hpT0 hdl
                all_goals
                  have e2 : w5.cell? ⟨wr.heap.size, 2, none⟩ = some (.slice YA c.new.length yc) := by rw [hbox5.cell]; rfl
                  have e0 : w5.cell? ⟨wr.heap.size, 0, none⟩ = some (.string ⟨c.name.toArray⟩) := by rw [hbox5.cell]; rfl
                  have hgl5 : wr.heap.size < w5.heap.size := hbox5.lt
                  go_wp2_with fail
                  have hone1 := Lib.hid (tCells_one T1 vs1 hv1l.out hh5.out)
                  have hO5 : Hid (∀ W, Below w5.heap.size w5 W → W.ownsRow w.heap.size 61 2 (.slice VA T1.length vc) T1.length (tCells T1 vs1) ∧ (∀ (k : Nat) b u, T1[k]? = some b → vs1[k]? = some u → HdIs W (DgAt W w.heap.size) u b.heads) ∧ HdIs W (· < w.heap.size) (.slice YA c.new.length yc) c.new ∧ Below w.heap.size w W ∧ W.cell? ⟨wr.heap.size, 0, none⟩ = some (.string ⟨c.name.toArray⟩) ∧ W.cell? ⟨wr.heap.size, 2, none⟩ = some (.slice YA c.new.length yc)) := Lib.hid (fun W hW =>
                    ⟨own_touch (L := []) hrow5.out (Touch.ofBelow hW) (by simp), fun k b u h1 h2 => (hh5.out k b u h1 h2).keepB hW, hY5.out.stayB hW, hb5.out.trans (hW.mono hb5.out.size), (by rw [hW.cell (p := ⟨wr.heap.size, 0, none⟩) hgl5]; exact e0), (by rw [hW.cell (p := ⟨wr.heap.size, 2, none⟩) hgl5]; exact e2)⟩)
                  have hS5 : Hid (∀ W o W4, Below w5.heap.size w5 W → (W.alloc o).grownBy W4 (Value.slice VA T1.length vc).ownBlock → W4.cell? ⟨wr.heap.size, 0, none⟩ = some (.string ⟨c.name.toArray⟩) ∧ W4.cell? ⟨wr.heap.size, 2, none⟩ = some (.slice YA c.new.length yc)) := Lib.hid (fun W o W4 hW hg => by
                    have hlt : wr.heap.size < W.heap.size := Nat.lt_of_lt_of_le hgl5 hW.size
                    have hblk : W4.heap[wr.heap.size]? = W.heap[wr.heap.size]? := (hg.block _ (by simp; omega) (fun e => hne5.out _ e.symm rfl)).trans (Below.heap_alloc W o _ hlt)
                    have e0 : W4.cell? ⟨wr.heap.size, 0, none⟩ = W.cell? ⟨wr.heap.size, 0, none⟩ := World.cell?_of_block hblk
                    have e1 : W4.cell? ⟨wr.heap.size, 2, none⟩ = W.cell? ⟨wr.heap.size, 2, none⟩ := World.cell?_of_block hblk
                    rw [e0, e1]
                    exact (hO5.out W hW).2.2.2.2)
                  have hbd : Below w5.heap.size w5 w5.drew := (Below.refl _ _).drew
                  have hrl : Hid (∀ b, (Value.slice VA T1.length vc).ownBlock = some b → b < w5.heap.size) := Lib.hid (fun b hb => (hrow5.out.lt b hb).2)
                  have hsz5 := hb5.out.size
                  clear hbox5 hrow4 hbox4
                  go_region_held3 (fun w' => w'.cell? ⟨wr.heap.size, 0, none⟩ = some (.string ⟨c.name.toArray⟩) ∧ w'.cell? ⟨wr.heap.size, 2, none⟩ = some (.slice YA c.new.length yc)) (first | exact hS5.out _ _ _ hb3.out hg6.out | exact (hO5.out _ hb3.out).2.2.2.2 | go_keep)
                    (first
                      | (go_at_call 52; (with_reducible refine (clone_any c.new _ _ w5.drew (hO5.out _ hbd).2.2.1 hc1.new).mono ?_); rintro e W3 ⟨cu, rfl, hcu, hb3'⟩; have hb3 := Lib.hid (hbd.trans hb3'); clear hb3'; obtain ⟨CA, ca, rfl, hcc1, hcc2⟩ := id hcu; replace hcu := Lib.hid hcu)
                      | (go_at_call 51; (with_reducible refine (insert_any w.heap.size (.slice VA T1.length vc) T1.length p (tCells T1 vs1) W3.heap.size (.string ⟨c.name.toArray⟩) (.slice CA c.new.length ca) (W3.alloc (.cells #[.string ⟨c.name.toArray⟩, .slice CA c.new.length ca] 61)) ((hO5.out _ hb3.out).1.alloc _) (by omega) hple1 hone1.out (Blk.new_at (cs := [.string ⟨c.name.toArray⟩, .slice CA c.new.length ca]) rfl) rfl rfl (by have := hb3.out.size; simp; omega) (fun e => by have := hrl.out _ e; have := hb3.out.size; omega)).mono ?_); rintro e W6 ⟨V6, rfl, hrow6, hg6, hown6⟩; replace hrow6 := Lib.hid hrow6; replace hg6 := Lib.hid hg6; clear hown6; obtain ⟨VA6, vc6, rfl, _, _⟩ := own_form hrow6.out))
                  have hO6 := Lib.hid (hO5.out _ hb3.out)
                  clear hO5 hS5 hcc2 hbd e0 e2
                  go_wp2
                  go_roundw
                  case rel =>
                    obtain ⟨r3, h3, _, bw3, _⟩ := hO6.out
                    have hba : Below W3.heap.size W3 (W3.alloc (Obj.cells #[Value.string ⟨c.name.toArray⟩, Value.slice CA c.new.length ca] 61)) := (Below.refl _ _).alloc (Nat.le_refl _) _
                    have hro := r3.alloc (Obj.cells #[Value.string ⟨c.name.toArray⟩, Value.slice CA c.new.length ca] 61)
                    refine ⟨k + 1, by omega, by go_num, ?_, by rw [hfk.out]; exact hwn, ?_⟩
                    · rw [hfk.out, hst1.out, hmid.out]
                      refine OwnTab.parts (M := [⟨c.name, c.new⟩]) (ms := [.slice CA c.new.length ca]) hv1l.out rfl hple1 (fun k b u h1 h2 => ((h3 k b u h1 h2).keepB hba).keepRow hro (by decide) hg6.out) (fun k b u h1 h2 => ?_) (n := T1.length + 1) (by simp only [List.length_cons, List.length_nil]; omega) hrow6.out
                      have hk0 : k = 0 := by
                        have := (List.getElem?_eq_some_iff.1 h1).1
                        simp only [List.length_cons, List.length_nil] at this; omega
                      subst hk0
                      simp only [List.getElem?_cons_zero, Option.some.injEq] at h1 h2
                      subst h1; subst h2
                      exact ((hcu.out.lower hsz5).keepB hba).keepRow hro (by decide) hg6.out
                    · exact bw3.trans ((hba.mono bw3.size).trans (own_below hro hg6.out (by have := bw3.size; simp; omega)))
                  case measure => simp [intOf]; omega
            · obtain rfl : k = C.length := by omega
              rw [List.take_length] at hO hway
              have hfold := foldl_step C T ms.out
              rw [hfold] at hO hway
              obtain ⟨FA, fc, rfl, _⟩ := hO.form
              have hpl : (putsT T C).length ≤ 64 := by have := hway.out.len; omega
              by_cases hbig : 32 < (putsT T C).length
              · have hfin : Hid (applyE T C = 4) := Lib.hid (by rw [hAE2.out, if_pos hbig])
                replace hb := Lib.hid hb
                clear hO
                go_wp2
                go_ret2
                exact apply_bad hfin.out (by decide) hb.out rfl
              · have hfin : Hid (applyE T C = 0) := Lib.hid (by rw [hAE2.out, if_neg hbig])
                replace hb := Lib.hid hb
                replace hO := Lib.hid hO
                go_wp2
                go_ret2
                exact ⟨_, two_ret rfl (by rw [hfin.out]; rfl), by unfold applyT; rw [if_pos hfin.out]; exact hO.out, hb.out⟩
  · rw [if_neg hm] at hAE
    obtain ⟨x, hx⟩ : ∃ x, x = mayE T := ⟨_, rfl⟩
    rw [← hx] at hmay hm hAE
    have g1 : (x != 0) = true := by simpa using hm
    replace hAE := Lib.hid hAE
    replace hm := Lib.hid hm
    clear hx h h' hf hc
    go_enter Tryd.func21, Tryd.ntmps21
    go_wp2_with fail
    refine hmay.out.mono ?_
    rintro e w1 ⟨rfl, hb1⟩
    replace hb1 := Lib.hid hb1
    go_wp2
    go_ret2
    exact apply_bad hAE.out hm.out hb1.out rfl
end Go.Proofs.YtlenmkemjaaaoaaDoor
end
