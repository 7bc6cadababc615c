/- The walks of the reference's Get and put. -/
import Derived.Test.YtlenmkemjaaaoaaDoorRfUn
namespace Go.Proofs.YtlenmkemjaaaoaaDoor
open Go.RowKit
attribute [local go_sem] toL

theorem getT_at : ∀ {T : Tab} {n : Str} {k : Nat} (hk : k < T.length), (∀ j (h : j < T.length), j < k → T[j].name ≠ n) → T[k].name = n → getT T n = T[k].heads
  | b :: T, n, 0, hk, _, he => by rw [getT_cons, if_pos (by simpa using he)]; rfl
  | b :: T, n, k + 1, hk, hn, he => by
    rw [getT_cons, if_neg (show b.name ≠ n from hn 0 (by simp) (by omega))]
    exact getT_at (T := T) (k := k) (by simpa using hk) (fun j h hj => hn (j + 1) (by simp; omega) (by omega)) (by simpa using he)
theorem getT_none {T : Tab} {n : Str} (h : ∀ j (h : j < T.length), T[j].name ≠ n) : getT T n = [] :=
  getT_far (fun b hb => by
    obtain ⟨j, hj, rfl⟩ := List.getElem_of_mem hb
    exact h j hj)
theorem TabIs.vals {w : World} {ok : Nat → Prop} {v : Value} {T : Tab} (h : TabIs w ok v T) : ∃ (A : Option Addr) (c : Nat) (vs : List Value), vs.length = T.length ∧ v = .slice A T.length c ∧ T.length ≤ c ∧ (∀ (k : Nat) b u, T[k]? = some b → vs[k]? = some u → HdIs w ok u b.heads) ∧
    ∀ w', Below w.heap.size w w' → ∀ k (hk : k < T.length), ∃ b o, A = some ⟨b, o, none⟩ ∧ b < w'.heap.size ∧ w'.cell? ⟨b, o + k * 2, none⟩ = some (strV T[k].name) ∧ w'.cell? ⟨b, o + k * 2 + 1, none⟩ = some (vs.getD k undef) := by
  obtain ⟨A, c, vs, hl, e, hc, hr, hh⟩ := h
  refine ⟨A, c, vs, hl, e, hc, hh, fun w' hb k hk => ?_⟩
  obtain ⟨b, o, rfl, _, hlt, hcell⟩ := (hr.stayB hb).at (by rw [tCells_len T vs hl]; omega)
  have hv : vs[k]? = some vs[k] := List.getElem?_eq_getElem (by omega)
  have hT : T[k]? = some T[k] := List.getElem?_eq_getElem hk
  obtain ⟨h1, h2⟩ := tCells_at T vs hl k _ _ hT hv
  exact ⟨b, o, rfl, hlt, hcell _ _ h1, by have := hcell _ _ h2; rw [← Nat.add_assoc] at this; rw [this, List.getD_eq_getElem?_getD, hv]; rfl⟩
set_option maxRecDepth 100000 in
set_option maxHeartbeats 4000000 in
theorem rget_any (T : Tab) (v : Value) (n : Str) (ok : Nat → Prop) (w : World) (h : TabIs w ok v T) (hf : T.length ≤ 3518437208832) :
    ∃ u, HdIs w ok u (getT T n) ∧ ∀ W, Below w.heap.size w W → Calls Tryd.prog 55 #[v, strV n] W fun e w' => e = .returned u ∧ W = w' := by
  obtain ⟨A, c, vs, hvl, rfl, hc, hh, hcells⟩ := h.vals
  obtain ⟨p, hp⟩ : ∃ p, p = T.findIdx (fun b => b.name == n) := ⟨_, rfl⟩
  have hpl : p ≤ T.length := by rw [hp]; exact List.findIdx_le_length
  have hbefore : ∀ j (h : j < T.length), j < p → T[j].name ≠ n := fun j h hj => by
    have := List.not_of_lt_findIdx (by rw [← hp]; exact hj)
    simpa using this
  have hat : ∀ h : p < T.length, T[p].name = n := fun h => by
    have := List.findIdx_getElem (p := fun b => b.name == n) (xs := T) (w := by rw [← hp]; exact h)
    simpa [← hp] using this
  obtain ⟨u, hu⟩ : ∃ u, u = if p < T.length then vs.getD p undef else Value.slice none 0 0 := ⟨_, rfl⟩
  have hU : HdIs w ok u (getT T n) := by
    by_cases hlt : p < T.length
    · rw [hu, if_pos hlt, getT_at hlt hbefore (hat hlt)]
      have hv : vs[p]? = some vs[p] := List.getElem?_eq_getElem (by omega)
      rw [List.getD_eq_getElem?_getD, hv]
      exact hh p _ _ (List.getElem?_eq_getElem hlt) hv
    · rw [hu, if_neg hlt, getT_none (fun j h => hbefore j h (by omega))]
      exact HdIs.nil
  refine ⟨u, hU, fun W hW => ?_⟩
  have hcl := Lib.hid (hcells W hW)
  replace hbefore := Lib.hid hbefore
  replace hat := Lib.hid hat
  replace hu := Lib.hid hu
  clear hp hU hh hcells h
  unfold strV
  go_enter Tryd.func55, Tryd.ntmps55
  go_wp2
  go_loopw [5] (fun i wr => ∃ k : Nat, k ≤ p ∧ i = .int .i64 k ∧ Hid (W = wr)) (fun i _ => p - (intOf i).toNat)
  case atStart => exact ⟨0, Nat.zero_le _, rfl, Lib.hid rfl⟩
  case round =>
    obtain ⟨k, hk, rfl, hw⟩ := hrel
    by_cases hlt : k < T.length
    · obtain ⟨b, o, rfl, hbl, c0, c1⟩ := hcl.out k hlt
      rw [hw.out] at c0 c1 hbl
      have i1 : (0 : Int) ≤ (k : Int) := by omega
      have i2 : (k : Int) < (T.length : Int) := by omega
      by_cases hkp : k = p
      · subst hkp
        have hn := hat.out hlt
        have hu' : u = vs.getD k undef := by rw [hu.out, if_pos hlt]
        rw [hn] at c0
        rw [← hu'] at c1
        unfold strV at c0
        have g1 : (n == n) = true := by simp
        replace hw := Lib.hid hw.out
        clear hn hu'
        go_wp2
        go_ret
        exact ⟨rfl, hw.out⟩
      · have hne := hbefore.out k hlt (by omega)
        obtain ⟨m, hm⟩ : ∃ m, m = T[k].name := ⟨_, rfl⟩
        rw [← hm] at c0 hne
        have g1 : (m == n) = false := by simpa using hne
        unfold strV at c0
        have hkp' : k < p := by omega
        clear hm hne hkp c1
        go_wp2
        go_roundw
        case rel => exact ⟨k + 1, by omega, by go_num, hw⟩
        case measure => simp [intOf]; omega
    · obtain rfl : k = T.length := by omega
      obtain rfl : p = T.length := by omega
      have hu' : Hid (u = .slice none 0 0) := Lib.hid (by rw [hu.out, if_neg (by omega)])
      go_wp2
      go_ret
      exact ⟨by rw [hu'.out]; rfl, hw.out⟩

/-- What put gives: a table of its own, its heads those of the table or those that are handed in. -/
def PutTo (w : World) (ok : Nat → Prop) (T : Tab) (e : Ending) (w' : World) : Prop := ∃ v, e = .returned v ∧ TabIs w' (fun b => ok b ∨ (w.heap.size ≤ b ∧ ∃ cs, Blk w' b 61 cs)) v T ∧ Below w.heap.size w w'
theorem tab_of_row {w : World} {ok : Nat → Prop} {base : Nat} {v : Value} {T : Tab} {vs : List Value} (hl : vs.length = T.length) (ho : w.ownsRow base 61 2 v T.length (tCells T vs))
    (hh : ∀ (k : Nat) b u, T[k]? = some b → vs[k]? = some u → HdIs w ok u b.heads) : TabIs w (fun b => ok b ∨ (base ≤ b ∧ ∃ cs, Blk w b 61 cs)) v T := by
  have hh' : ∀ (k : Nat) b u, T[k]? = some b → vs[k]? = some u → HdIs w (fun b => ok b ∨ (base ≤ b ∧ ∃ cs, Blk w b 61 cs)) u b.heads := fun k b u h1 h2 => (hh k b u h1 h2).stay (fun _ _ _ => rfl) (fun b hb _ => .inl hb)
  rcases ho.2 with ⟨rfl, h0⟩ | ⟨g, cap, cur, rfl, hb, hg, hc1, hc2, hc3, ht⟩
  · have : T = [] := List.eq_nil_of_length_eq_zero h0
    subst this
    exact TabIs.nil
  · have hB : Blk w g 61 cur.toList := by unfold Blk; simpa using hg
    exact ⟨_, cap, vs, hl, rfl, hc1, Rd.of_blk (r := cur.toList.drop (T.length * 2)) hB (by rw [List.drop_zero, ← ht, List.take_append_drop]) (.inr ⟨hb, _, hB⟩), hh'⟩
theorem put_len (n : Str) (h : List Str) : ∀ (T : Tab) (d : Bool), (putG n h d T).length ≤ T.length + (if d = true then 0 else 1)
  | [], d => by unfold putG; cases d <;> simp
  | b :: T, d => by
    have h1 := put_len n h T d
    have h2 := put_len n h T true
    rw [if_pos rfl] at h2
    unfold putG
    split <;> rename_i hc
    · rw [hc.1]
      split <;> simp <;> omega
    · split <;> simp <;> omega
/-- What the row holds so far. -/
structure PutI (w : World) (ok : Nat → Prop) (n : Str) (h : List Str) (T : Tab) (k : Nat) (d : Bool) (O : Tab) (ov : Value) (wr : World) : Prop where
  eq : putG n h (decide (h = [])) T = O ++ putG n h d (T.drop k)
  len : O.length ≤ 2 * k
  row : ∃ vs, vs.length = O.length ∧ wr.ownsRow w.heap.size 61 2 ov O.length (tCells O vs) ∧ ∀ (k : Nat) b u, O[k]? = some b → vs[k]? = some u → HdIs w ok u b.heads
  bel : Below w.heap.size w wr
theorem PutI.snoc {w : World} {ok : Nat → Prop} {O : Tab} {vs : List Value} {b : Br} {u : Value} (hl : vs.length = O.length) (hh : ∀ (k : Nat) b u, O[k]? = some b → vs[k]? = some u → HdIs w ok u b.heads) (hu : HdIs w ok u b.heads) :
    (vs ++ [u]).length = (O ++ [b]).length ∧ tCells (O ++ [b]) (vs ++ [u]) = tCells O vs ++ [strV b.name, u] ∧ ∀ (k : Nat) b' u', (O ++ [b])[k]? = some b' → (vs ++ [u])[k]? = some u' → HdIs w ok u' b'.heads := by
  refine ⟨by simp [hl], tCells_snoc O vs hl b u, (zip_all _ _).2 (fun q hq => ?_)⟩
  rw [List.zip_append hl.symm] at hq
  rcases List.mem_append.1 hq with hq | hq
  · exact (zip_all O vs).1 hh q hq
  · simp only [List.zip_cons_cons, List.zip_nil_left, List.mem_singleton] at hq
    subst hq
    exact hu
set_option maxRecDepth 100000 in
set_option maxHeartbeats 4000000 in
theorem rput_any (T : Tab) (v : Value) (n : Str) (hv : Value) (h : List Str) (ok : Nat → Prop) (w : World) (ht : TabIs w ok v T) (hh : HdIs w ok hv h) (hl : T.length ≤ 1000) (hhl : h.length ≤ 4398046511104) :
    Calls Tryd.prog 56 #[v, strV n, hv] w (PutTo w ok (putT T n h)) := by
  obtain ⟨A, c, vs0, hvl0, rfl, hc, hh0, hcl⟩ := ht.vals
  obtain ⟨HA, hcap, rfl, _, _⟩ := id hh
  have hput : putT T n h = putG n h (decide (h = [])) T := rfl
  have hlen0 := put_len n h T (decide (h = []))
  rw [← hput] at hlen0
  obtain ⟨R, hR⟩ : ∃ R, R = putT T n h := ⟨_, rfl⟩
  rw [← hR] at hput hlen0 ⊢
  have hdec : decide (h = []) = ((h.length : Int) == 0) := by
    cases h with
    | nil => rfl
    | cons a l => simp; omega
  obtain ⟨db0, hdb⟩ : ∃ b, b = ((h.length : Int) == 0) := ⟨_, rfl⟩
  have hst : PutI w ok n h T 0 db0 [] (.slice none 0 0) w := by
    obtain ⟨vs, e1, e2, e3⟩ := OwnTab.nil (w := w) (base := w.heap.size)
    exact ⟨by rw [hdb, ← hdec]; rfl, Nat.zero_le _, ⟨vs, e1, e2, fun k b u h _ => by simp at h⟩, Below.refl _ _⟩
  have g0 : ((h.length : Int) == 0) = db0 := hdb.symm
  replace hput := Lib.hid hput
  replace hcl := Lib.hid hcl
  replace hh0 := Lib.hid hh0
  replace hh := Lib.hid hh
  replace hlen0 := Lib.hid hlen0
  replace hst := Lib.hid hst
  clear hdb hdec hR
  replace ht := Lib.hid ht
  unfold strV
  go_enter Tryd.func56, Tryd.ntmps56
  go_wp2
  go_loopw [7, 8, 9] (fun o d i wr => ∃ (k : Nat) (db : Bool) (O : Tab), k ≤ T.length ∧ i = .int .i64 k ∧ d = .bool db ∧ PutI w ok n h T k db O o wr) (fun _ _ i _ => T.length - (intOf i).toNat)
  case atStart => exact ⟨0, db0, [], Nat.zero_le _, rfl, rfl, hst.out⟩
  case round =>
    clear hst g0
    obtain ⟨k, db, O, hk, rfl, rfl, hI⟩ := hrel
    have hOl := hI.len
    obtain ⟨vs, hvl, hrow, hheads⟩ := hI.row
    obtain ⟨FA, fc, rfl, _, _⟩ := own_form hrow
    have hbel := hI.bel
    have hszr := hbel.size
    replace hrow := Lib.hid hrow
    replace hheads := Lib.hid hheads
    by_cases hlt : k < T.length
    · obtain ⟨b, o, rfl, hbl, c0, c1⟩ := hcl.out wr hbel k hlt
      have heq := hI.eq
      rw [List.drop_eq_getElem_cons hlt] at heq
      have hU := hh0.out k _ _ (List.getElem?_eq_getElem hlt) (show vs0[k]? = some (vs0.getD k undef) by rw [List.getD_eq_getElem?_getD, List.getElem?_eq_getElem (by omega)]; rfl)
      obtain ⟨m, hm⟩ : ∃ m, m = T[k].name := ⟨_, rfl⟩
      obtain ⟨hs, hhs⟩ : ∃ hs, hs = T[k].heads := ⟨_, rfl⟩
      obtain ⟨u, hu⟩ : ∃ u, u = vs0.getD k undef := ⟨_, rfl⟩
      have hbr : T[k] = ⟨m, hs⟩ := by rw [hm, hhs]
      rw [hbr] at heq
      have hcf := Lib.hid (fun W hW => hcl.out W hW k hlt)
      rw [← hm] at c0
      rw [← hhs, ← hu] at hU
      rw [← hu] at c1
      obtain ⟨UA, uc, rfl, _, _⟩ := id hU
      replace hU := Lib.hid hU
      unfold strV at c0
      have hcells := Lib.hid (two_cells (w := wr) c0 c1)
      have i1 : (0 : Int) ≤ (k : Int) := by omega
      have i2 : (k : Int) < (T.length : Int) := by omega
      have hOl2 : O.length ≤ 2000 := by omega
      obtain ⟨t, htl⟩ : ∃ t, t = lessS n m := ⟨_, rfl⟩
      have hlss : Op.bytesLess n m = t := htl.symm
      obtain ⟨q, hq⟩ : ∃ q, q = (m == n) := ⟨_, rfl⟩
      have hqe : (m == n) = q := hq.symm
      have hqn : (m != n) = !q := by rw [bne, hqe]
      have hcf2 : Hid (∀ W, Below w.heap.size w W → ∀ j x, [Value.string ⟨m.toArray⟩, .slice UA hs.length uc][j]? = some x → W.cell? ⟨b, o + k * 2 + j, none⟩ = some x) := Lib.hid (fun W hW => by
        obtain ⟨b', o', e', _, d0, d1⟩ := hcf.out W hW
        cases e'
        rw [← hm] at d0
        rw [← hu] at d1
        exact two_cells d0 d1)
      have hqd : q = true ↔ m = n := by rw [hq]; simp
      have hpg : ∀ r, putG n h db (⟨m, hs⟩ :: r) = if db = false ∧ lessS n m = true then ⟨n, h⟩ :: ((if m = n then [] else [⟨m, hs⟩]) ++ putG n h true r) else (if m = n then [] else [⟨m, hs⟩]) ++ putG n h db r := fun r => rfl
      rw [hpg, ← htl] at heq
      clear hm hhs hu hcf htl hq hI hpg
      replace hbel := Lib.hid hbel
      have hgo : (db = false ∧ t = true) ∨ (db = true ∨ t = false) := by cases db <;> cases t <;> simp
      rcases hgo with ⟨rfl, rfl⟩ | hno
      · have hq0 : q = false := by
          cases q with
          | false => rfl
          | true =>
            have := hqd.1 rfl
            subst this
            have e1 : lessS m m = true := hlss
            rw [lessS_irr] at e1; cases e1
        subst hq0
        rw [if_pos ⟨rfl, rfl⟩, if_neg (fun e => by have := hqd.2 e; cases this)] at heq
        replace heq : Hid (putG n h (decide (h = [])) T = O ++ [⟨n, h⟩] ++ [⟨m, hs⟩] ++ putG n h true (T.drop (k + 1))) := Lib.hid (by rw [heq]; simp)
        have hqn' : (m != n) = true := hqn
        clear hqn hqd
        obtain ⟨l1, l2, l3⟩ := PutI.snoc (b := ⟨n, h⟩) hvl hheads.out hh.out
        have hl1 : (O ++ [(⟨n, h⟩ : Br)]).length = O.length + 1 := by simp
        obtain ⟨O1, hO1⟩ : ∃ O1, O1 = O ++ [(⟨n, h⟩ : Br)] := ⟨_, rfl⟩
        obtain ⟨vs1, hvs1⟩ : ∃ vs1, vs1 = vs ++ [Value.slice HA h.length hcap] := ⟨_, rfl⟩
        rw [← hO1] at heq l1 l2 l3 hl1
        rw [← hvs1] at l1 l2 l3
        replace l3 := Lib.hid l3
        replace l2 := Lib.hid l2
        clear hO1 hvs1
        go_wp2_with (first
          | (at_builtin; refine wpList_append_rd _ rfl (.tmp 30) (.tmp 34) 22 rfl w.heap.size 61 (.agg zeroBr.toArray) 2 40 Tryd.underlying22 brInfo (.slice FA O.length fc) O.length (tCells O vs) rfl (hrow.out.alloc _) (fun _ => True) (some ⟨wr.heap.size, 0, none⟩) 1 1 [.string ⟨n.toArray⟩, .slice HA h.length hcap] rfl rfl (Rd.of_blk (cs := [.string ⟨n.toArray⟩, .slice HA h.length hcap]) (r := []) (Blk.new_at rfl) rfl trivial) (by simp [Value.oneCell']) (by unfold maxLen; omega) (by omega) (by simp; omega) ?_; intro v1 W1 hrow1 hg1 hv1; replace hrow1 := Lib.hid hrow1; replace hg1 := Lib.hid hg1; clear hv1; have hb1 : Below w.heap.size w W1 := hbel.out.trans ((((Below.refl _ _).alloc (Nat.le_refl _) _).mono hszr).trans (own_below (hrow.out.alloc _) hg1.out (by simp; omega))); have hsz1 := hb1.size; replace hb1 := Lib.hid hb1; replace hrow1 : Hid (W1.ownsRow w.heap.size 61 2 v1 O1.length (tCells O1 vs1)) := Lib.hid (by rw [l2.out, hl1]; exact hrow1.out); obtain ⟨FA1, fc1, rfl, _, _⟩ := own_form hrow1.out; have hc1 := Lib.hid (hcf2.out W1 hb1.out); have e0 := hc1.out 0 _ rfl; have hbl1 : b < W1.heap.size := World.block_lt_of_cell? _ _ e0; rw [Nat.add_zero] at e0; go_frame)
          | (refine wpList_load_at 61 (.tmp 46) rfl rfl b (o + k * 2) rfl [.string ⟨m.toArray⟩, .slice UA hs.length uc] hc1.out _ Tryd.underlying61 rfl brSz ?_; go_frame)
          | (at_builtin; refine wpList_append_rd _ rfl (.tmp 43) (.tmp 48) 22 rfl w.heap.size 61 (.agg zeroBr.toArray) 2 40 Tryd.underlying22 brInfo (.slice FA1 O1.length fc1) O1.length (tCells O1 vs1) rfl (hrow1.out.alloc _) (fun _ => True) (some ⟨W1.heap.size, 0, none⟩) 1 1 [.string ⟨m.toArray⟩, .slice UA hs.length uc] rfl rfl (Rd.of_blk (cs := [.string ⟨m.toArray⟩, .slice UA hs.length uc]) (r := []) (Blk.new_at rfl) rfl trivial) (by simp [Value.oneCell']) (by unfold maxLen; omega) (by omega) (by simp; omega) ?_; intro v2 W2 hrow2 hg2 hv2; replace hrow2 := Lib.hid hrow2; replace hg2 := Lib.hid hg2; clear hv2; go_frame))
        go_roundw
        case rel =>
          obtain ⟨p1, p2, p3⟩ := PutI.snoc (b := ⟨m, hs⟩) l1 l3.out hU.out
          exact ⟨k + 1, true, O1 ++ [⟨m, hs⟩], by omega, by go_num, rfl, heq.out, by simp; omega, ⟨_, p1, by rw [p2, List.length_append]; exact hrow2.out, p3⟩, hb1.out.trans ((((Below.refl _ _).alloc (Nat.le_refl _) _).mono hsz1).trans (own_below (hrow1.out.alloc _) hg2.out (by simp; omega)))⟩
        case measure => simp [intOf]; omega
      · rw [if_neg (fun e => by rcases hno with e' | e' <;> simp [e'] at e)] at heq
        cases hqv : q with
        | true =>
          have hmn := hqd.1 hqv
          rw [if_pos hmn, List.nil_append] at heq
          replace heq := Lib.hid heq
          have hqn' : (m != n) = false := by rw [hqn, hqv]; rfl
          rw [hqv] at hqe
          clear hqn hqd hqv hmn
          have hdt : (!db && t) = false := by rcases hno with e' | e' <;> simp [e']
          cases db
          focus
            have ht0 : t = false := by simpa using hdt
            subst ht0
            go_wp2
            go_roundw
            case rel => exact ⟨k + 1, false, O, by omega, by go_num, rfl, heq.out, by omega, ⟨vs, hvl, hrow.out, hheads.out⟩, hbel.out⟩
            case measure => simp [intOf]; omega
          focus
            go_wp2
            go_roundw
            case rel => exact ⟨k + 1, true, O, by omega, by go_num, rfl, heq.out, by omega, ⟨vs, hvl, hrow.out, hheads.out⟩, hbel.out⟩
            case measure => simp [intOf]; omega
        | false =>
          rw [if_neg (fun e => by have := hqd.2 e; rw [hqv] at this; cases this)] at heq
          replace heq : Hid (putG n h (decide (h = [])) T = O ++ [⟨m, hs⟩] ++ putG n h db (T.drop (k + 1))) := Lib.hid (by rw [heq]; simp)
          have hqn' : (m != n) = true := by rw [hqn, hqv]; rfl
          rw [hqv] at hqe
          clear hqn hqd hqv
          have hdt : (!db && t) = false := by rcases hno with e' | e' <;> simp [e']
          cases db
          focus
            have ht0 : t = false := by simpa using hdt
            subst ht0
            go_wp2_with (first
              | (refine wpList_load_at 61 (.tmp 46) rfl rfl b (o + k * 2) rfl [.string ⟨m.toArray⟩, .slice UA hs.length uc] hcells.out _ Tryd.underlying61 rfl brSz ?_; go_frame)
              | (at_builtin; refine wpList_append_rd _ rfl (.tmp 43) (.tmp 48) 22 rfl w.heap.size 61 (.agg zeroBr.toArray) 2 40 Tryd.underlying22 brInfo (.slice FA O.length fc) O.length (tCells O vs) rfl (hrow.out.alloc _) (fun _ => True) (some ⟨wr.heap.size, 0, none⟩) 1 1 [.string ⟨m.toArray⟩, .slice UA hs.length uc] rfl rfl (Rd.of_blk (cs := [.string ⟨m.toArray⟩, .slice UA hs.length uc]) (r := []) (Blk.new_at rfl) rfl trivial) (by simp [Value.oneCell']) (by unfold maxLen; omega) (by omega) (by simp; omega) ?_; intro v2 W2 hrow2 hg2 hv2; replace hrow2 := Lib.hid hrow2; replace hg2 := Lib.hid hg2; clear hv2; go_frame))
            go_roundw
            case rel =>
              obtain ⟨p1, p2, p3⟩ := PutI.snoc (b := ⟨m, hs⟩) hvl hheads.out hU.out
              exact ⟨k + 1, false, O ++ [⟨m, hs⟩], by omega, by go_num, rfl, heq.out, by simp; omega, ⟨_, p1, by rw [p2, List.length_append]; exact hrow2.out, p3⟩, hbel.out.trans ((((Below.refl _ _).alloc (Nat.le_refl _) _).mono hszr).trans (own_below (hrow.out.alloc _) hg2.out (by simp; omega)))⟩
            case measure => simp [intOf]; omega
          focus
            go_wp2_with (first
              | (refine wpList_load_at 61 (.tmp 46) rfl rfl b (o + k * 2) rfl [.string ⟨m.toArray⟩, .slice UA hs.length uc] hcells.out _ Tryd.underlying61 rfl brSz ?_; go_frame)
              | (at_builtin; refine wpList_append_rd _ rfl (.tmp 43) (.tmp 48) 22 rfl w.heap.size 61 (.agg zeroBr.toArray) 2 40 Tryd.underlying22 brInfo (.slice FA O.length fc) O.length (tCells O vs) rfl (hrow.out.alloc _) (fun _ => True) (some ⟨wr.heap.size, 0, none⟩) 1 1 [.string ⟨m.toArray⟩, .slice UA hs.length uc] rfl rfl (Rd.of_blk (cs := [.string ⟨m.toArray⟩, .slice UA hs.length uc]) (r := []) (Blk.new_at rfl) rfl trivial) (by simp [Value.oneCell']) (by unfold maxLen; omega) (by omega) (by simp; omega) ?_; intro v2 W2 hrow2 hg2 hv2; replace hrow2 := Lib.hid hrow2; replace hg2 := Lib.hid hg2; clear hv2; go_frame))
            go_roundw
            case rel =>
              obtain ⟨p1, p2, p3⟩ := PutI.snoc (b := ⟨m, hs⟩) hvl hheads.out hU.out
              exact ⟨k + 1, true, O ++ [⟨m, hs⟩], by omega, by go_num, rfl, heq.out, by simp; omega, ⟨_, p1, by rw [p2, List.length_append]; exact hrow2.out, p3⟩, hbel.out.trans ((((Below.refl _ _).alloc (Nat.le_refl _) _).mono hszr).trans (own_below (hrow.out.alloc _) hg2.out (by simp; omega)))⟩
            case measure => simp [intOf]; omega
    · obtain rfl : k = T.length := by omega
      have heq := hI.eq
      rw [List.drop_length] at heq
      have hOl2 : O.length ≤ 2000 := by omega
      cases db
      focus
        replace heq : Hid (R = O ++ [⟨n, h⟩]) := Lib.hid (by rw [hput.out, heq]; rfl)
        clear hI
        go_wp2_with (first
          | (at_builtin; refine wpList_append_rd _ rfl (.tmp 52) (.tmp 56) 22 rfl w.heap.size 61 (.agg zeroBr.toArray) 2 40 Tryd.underlying22 brInfo (.slice FA O.length fc) O.length (tCells O vs) rfl (hrow.out.alloc _) (fun _ => True) (some ⟨wr.heap.size, 0, none⟩) 1 1 [.string ⟨n.toArray⟩, .slice HA h.length hcap] rfl rfl (Rd.of_blk (cs := [.string ⟨n.toArray⟩, .slice HA h.length hcap]) (r := []) (Blk.new_at rfl) rfl trivial) (by simp [Value.oneCell']) (by unfold maxLen; omega) (by omega) (by simp; omega) ?_; intro v1 W1 hrow1 hg1 hv1; replace hrow1 := Lib.hid hrow1; replace hg1 := Lib.hid hg1; clear hv1; go_frame))
        obtain ⟨FA1, fc1, rfl, _, _⟩ := own_form hrow1.out
        go_ret
        obtain ⟨l1, l2, l3⟩ := PutI.snoc (b := ⟨n, h⟩) hvl hheads.out hh.out
        have hb1 : Below w.heap.size w W1 := hbel.trans ((((Below.refl _ _).alloc (Nat.le_refl _) _).mono hszr).trans (own_below (hrow.out.alloc _) hg1.out (by simp; omega)))
        refine ⟨_, rfl, ?_, hb1⟩
        rw [heq.out]
        have hr2 : W1.ownsRow w.heap.size 61 2 (.slice FA1 (O.length + 1) fc1) (O ++ [(⟨n, h⟩ : Br)]).length (tCells (O ++ [⟨n, h⟩]) (vs ++ [.slice HA h.length hcap])) := by rw [l2, List.length_append]; exact hrow1.out
        exact tab_of_row l1 hr2 (fun j b u q1 q2 => (l3 j b u q1 q2).stayB hb1)
      focus
        replace heq : Hid (R = O) := Lib.hid (by rw [hput.out, heq]; simp [putG])
        clear hI
        go_wp2
        go_ret
        refine ⟨_, rfl, ?_, hbel⟩
        rw [heq.out]
        exact tab_of_row hvl hrow.out (fun j b u q1 q2 => (hheads.out j b u q1 q2).stayB hbel)
end Go.Proofs.YtlenmkemjaaaoaaDoor
