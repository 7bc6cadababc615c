/- Joined: RfQ, RfS. -/
import Derived.Test.YtlenmkemjaaaoaaDoorRjLK
import Derived.Deep.RegionHeld3
section
/- The walks of slices.Clone at digests, and of refs.own. -/
namespace Go.Proofs.YtlenmkemjaaaoaaDoor
open Go.RowKit

/-- A block of digests, from base on. -/
def DgAt (w : World) (base : Nat) (b : Nat) : Prop := base ≤ b ∧ ∃ cs, Blk w b 57 cs
theorem digInfo : InfoOf Tryd.prog 57 (.agg zero32.toArray) 32 32 := ⟨by kernel_rfl, rfl, by omega⟩
theorem brInfo : InfoOf Tryd.prog 61 (.agg zeroBr.toArray) 2 40 := ⟨by kernel_rfl, rfl, by omega⟩
theorem hd_of_own {w : World} {base : Nat} {v : Value} {l : List Str} (h : w.ownsRow base 57 32 v l.length (hCells l)) : HdIs w (DgAt w base) v l := by
  obtain ⟨h1, h2⟩ := h
  rcases h2 with ⟨rfl, h0⟩ | ⟨g, cap, cur, rfl, hb, hg, hc1, hc2, hc3, ht⟩
  · have : l = [] := List.eq_nil_of_length_eq_zero h0
    subst this
    exact HdIs.nil
  · have hB : Blk w g 57 cur.toList := by unfold Blk; simpa using hg
    refine ⟨_, cap, rfl, hc1, Rd.of_blk (r := cur.toList.drop (l.length * 32)) hB (by rw [List.drop_zero, ← ht, List.take_append_drop]) ⟨hb, _, hB⟩⟩
/-- What Clone gives. -/
def CloneTo (w : World) (l : List Str) (e : Ending) (w' : World) : Prop := ∃ u, e = .returned u ∧ HdIs w' (DgAt w' w.heap.size) u l ∧ Below w.heap.size w w'
theorem empty_row (w : World) (T : TypeId) (s : Nat) : (w.alloc (.cells #[] T)).ownsRow w.heap.size T s (.slice (some ⟨w.heap.size, 0, none⟩) 0 0) 0 [] := by
  refine ⟨by simp, .inr ⟨w.heap.size, 0, #[], rfl, Nat.le_refl _, heap_alloc_new w _, Nat.le_refl _, Nat.zero_le _, by simp, by simp⟩⟩
set_option maxRecDepth 100000 in
set_option maxHeartbeats 2000000 in
theorem clone_any (l : List Str) (v : Value) (ok : Nat → Prop) (w : World) (h : HdIs w ok v l) (hf : HFit l) :
    Calls Tryd.prog 52 #[v] w (CloneTo w l) := by
  obtain ⟨A, c, rfl, hc, hr⟩ := h
  have hl := hf.len
  have hlen := Lib.hid (hCells_len hf.ok)
  have hone := Lib.hid (hCells_one l)
  have hq := fun w => Lib.run_eql_slice_nil (P := Tryd.prog) w 44 57 A l.length c 0 0 Tryd.underlying44
  cases A with
  | none =>
    have h0 : Hid (l = []) := Lib.hid (by
      cases l with
      | nil => rfl
      | cons d r =>
        obtain ⟨ad, e, _⟩ := hr (by rw [hlen.out, List.length_cons]; omega)
        cases e)
    clear hr hf
    go_enter Tryd.func52, Tryd.ntmps52
    go_wp2
    go_ret
    exact ⟨_, rfl, by rw [h0.out]; exact HdIs.nil, Below.refl _ _⟩
  | some ad =>
    have hrd : Hid (Rd (w.alloc (.cells #[] 57)) (fun b => b < w.heap.size) (some ad) (hCells l)) := Lib.hid (hr.stay (fun b _ hlt => Below.heap_alloc _ _ _ hlt) (fun b _ hlt => hlt))
    have hown := Lib.hid (empty_row w 57 32)
    have hb0 : Hid (Below w.heap.size w (w.alloc (.cells #[] 57))) := Lib.hid ((Below.refl _ _).alloc (Nat.le_refl _) _)
    clear hr hf
    go_enter Tryd.func52, Tryd.ntmps52
    go_wp2_with (at_builtin; refine wpList_append_rd _ rfl (.tmp 5) (.tmp 6) 44 rfl w.heap.size 57 (.agg zero32.toArray) 32 32 Tryd.underlying44 digInfo (.slice (some ⟨w.heap.size, 0, none⟩) 0 0) 0 [] rfl hown.out (fun b => b < w.heap.size) (some ad) l.length c (hCells l) rfl hlen.out hrd.out hone.out (by unfold maxLen; omega) (by omega) (by simp) ?_; intro v' w2 hrow2 hg2 hv2; replace hrow2 := Lib.hid hrow2; replace hg2 := Lib.hid hg2; obtain ⟨VA, vc, rfl, _, _⟩ := own_form hrow2.out; go_frame)
    go_ret
    refine ⟨_, rfl, hd_of_own (by have := hrow2.out; simpa using this), ?_⟩
    exact hb0.out.trans (own_below hown.out hg2.out (by simp))
end Go.Proofs.YtlenmkemjaaaoaaDoor
end

section
/- A table in memory of its own; the walk of refs.own. -/
namespace Go.Proofs.YtlenmkemjaaaoaaDoor
open Go.RowKit

/-- append, at a step of a region that draws its order. -/
theorem step_append_rd {P : Program} (w : World) {ops : Array Oper} {o : Oper} {a : Act} {K : Act → World → Prop} {Q : Exit → Act → World → Prop} {E : Prop} (hgd : o.guard = none) (s x : Operand) (t : TypeId)
    (ho : o.op = .call { callee := .builtin .append, args := #[s, x], argTypes := #[t, t] })
    (base : Nat) (e : TypeId) (z : Value) (size bytes : Nat) (ht : P.underlying t = some (.slice e)) (hI : InfoOf P e z size bytes)
    (v : Value) (n : Nat) (xs : List Value) (hs : a.eval s = v) (hown : w.ownsRow base e size v n xs)
    (ok : Nat → Prop) (A : Option Addr) (m c : Nat) (news : List Value) (hx : a.eval x = .slice A m c) (hm : news.length = m * size) (hr : Rd w ok A news) (h1 : ∀ u ∈ news, u.oneCell' = true)
    (h63 : n + m ≤ maxLen) (hbytes : (n + m) * bytes ≤ 140737488355328) (hbase : base ≤ w.heap.size)
    (h : ∀ v' w', w'.ownsRow base e size v' (n + m) (xs ++ news) → w.grownBy w' v.ownBlock → (v'.ownBlock = v.ownBlock ∨ v'.ownBlock = some w.heap.size) → K (a.put o.dst v') w') :
    if Region.wanted o (yielded ops a.tmps) = true then Oper.wp P o a w K Q else E := by
  have hw : Region.wanted o (yielded ops a.tmps) = true := by simp [Region.wanted, hgd]
  rw [if_pos hw]
  exact wp_append_rd w s x t ho base e z size bytes ht hI v n xs hs hown ok A m c news hx hm hr h1 h63 hbytes hbase h
section
variable {w w' : World} {base base' : Nat} {u : Value} {l : List Str}
theorem HdIs.keep (h : HdIs w (DgAt w base) u l) (hk : ∀ b cs, base ≤ b → Blk w b 57 cs → Blk w' b 57 cs) : HdIs w' (DgAt w' base) u l :=
  h.stay (fun b hb _ => by
    obtain ⟨h1, cs, h2⟩ := hb
    have h3 := hk b cs h1 h2
    unfold Blk at h2 h3
    rw [h2, h3]) (fun b hb _ => by
    obtain ⟨h1, cs, h2⟩ := hb
    exact ⟨h1, cs, hk b cs h1 h2⟩)
theorem HdIs.keepB (h : HdIs w (DgAt w base) u l) (hb : Below w.heap.size w w') : HdIs w' (DgAt w' base) u l := h.keep (fun _ _ _ hB => hB.below hb hB.lt)
theorem HdIs.lower (h : HdIs w (DgAt w base) u l) (hb : base' ≤ base) : HdIs w (DgAt w base') u l := h.stay (fun _ _ _ => rfl) (fun _ ⟨h1, cs, h2⟩ _ => ⟨Nat.le_trans hb h1, cs, h2⟩)
theorem HdIs.keepRow {v : Value} {n : Nat} {xs : List Value} {T : TypeId} {s : Nat} (h : HdIs w (DgAt w base) u l) (ho : w.ownsRow base' T s v n xs) (hT : T ≠ 57) (hg : w.grownBy w' v.ownBlock) : HdIs w' (DgAt w' base) u l :=
  h.keep (fun b cs _ hB => hB.grown hg (fun e => by
    rcases ho.2 with ⟨rfl, _⟩ | ⟨g', cap, cur, rfl, _, hg', _⟩
    · cases e
    · have e' : b = g' := by simpa [Value.ownBlock] using e
      subst e'
      unfold Blk at hB
      rw [hg'] at hB
      injection hB with hB
      injection hB with _ ht
      exact hT ht))
end
/-- A table that the call has made: its row, and its heads, lie from base on. -/
def OwnTab (w : World) (base : Nat) (v : Value) (T : Tab) : Prop := ∃ vs, vs.length = T.length ∧ w.ownsRow base 61 2 v T.length (tCells T vs) ∧ ∀ (k : Nat) b u, T[k]? = some b → vs[k]? = some u → HdIs w (DgAt w base) u b.heads
section
variable {w w' : World} {base base' : Nat} {v : Value} {T : Tab}
theorem OwnTab.nil : OwnTab w base (.slice none 0 0) [] := ⟨[], rfl, ⟨rfl, .inl ⟨rfl, rfl⟩⟩, fun k b u h _ => by simp at h⟩
theorem OwnTab.form (h : OwnTab w base v T) : ∃ A c, v = .slice A T.length c ∧ T.length ≤ c := by
  obtain ⟨vs, _, ho, _⟩ := h
  obtain ⟨A, c, e, hc, _⟩ := own_form ho
  exact ⟨A, c, e, hc⟩
theorem OwnTab.keepB (h : OwnTab w base v T) (hb : Below w.heap.size w w') : OwnTab w' base v T := by
  obtain ⟨vs, hl, ho, hh⟩ := h
  exact ⟨vs, hl, own_touch (L := []) ho (Touch.ofBelow hb) (by simp), fun k b u h1 h2 => (hh k b u h1 h2).keepB hb⟩
theorem OwnTab.lower (h : OwnTab w base v T) (hb : base' ≤ base) : OwnTab w base' v T := by
  obtain ⟨vs, hl, ⟨e1, e2⟩, hh⟩ := h
  refine ⟨vs, hl, ⟨e1, ?_⟩, fun k b u h1 h2 => (hh k b u h1 h2).lower hb⟩
  rcases e2 with e2 | ⟨gx, cap, cur, e3, e4, e5⟩
  · exact .inl e2
  · exact .inr ⟨gx, cap, cur, e3, by omega, e5⟩
/-- A block of a table of one's own. -/
def TbAt (w : World) (base b : Nat) : Prop := base ≤ b ∧ ((∃ cs, Blk w b 57 cs) ∨ ∃ cs, Blk w b 61 cs)
theorem OwnTab.tab (h : OwnTab w base v T) : TabIs w (TbAt w base) v T := by
  obtain ⟨vs, hl, ho, hh⟩ := h
  have hh' : ∀ (k : Nat) b u, T[k]? = some b → vs[k]? = some u → HdIs w (TbAt w base) u b.heads := fun k b u h1 h2 => (hh k b u h1 h2).stay (fun _ _ _ => rfl) (fun b hb _ => ⟨hb.1, .inl hb.2⟩)
  rcases ho.2 with ⟨rfl, h0⟩ | ⟨g, cap, cur, rfl, hb, hg, hc1, hc2, hc3, ht⟩
  · have : T = [] := List.eq_nil_of_length_eq_zero h0
    subst this
    exact TabIs.nil
  · have hB : Blk w g 61 cur.toList := by unfold Blk; simpa using hg
    exact ⟨_, cap, vs, hl, rfl, hc1, Rd.of_blk (r := cur.toList.drop (T.length * 2)) hB (by rw [List.drop_zero, ← ht, List.take_append_drop]) ⟨hb, .inr ⟨_, hB⟩⟩, hh'⟩
end
theorem tCells_snoc (T : Tab) (vs : List Value) (hl : vs.length = T.length) (b : Br) (u : Value) : tCells (T ++ [b]) (vs ++ [u]) = tCells T vs ++ [strV b.name, u] := tCells_app T vs hl [b] [u]
/-- One branch more, behind the last. -/
theorem OwnTab.snoc {w' : World} {base : Nat} {v' : Value} {T : Tab} {vs : List Value} {b : Br} {u : Value} (hl : vs.length = T.length) (hh : ∀ (k : Nat) b u, T[k]? = some b → vs[k]? = some u → HdIs w' (DgAt w' base) u b.heads)
    (hu : HdIs w' (DgAt w' base) u b.heads) (hrow : w'.ownsRow base 61 2 v' (T.length + 1) (tCells T vs ++ [strV b.name, u])) : OwnTab w' base v' (T ++ [b]) := by
  refine ⟨vs ++ [u], by simp [hl], by rw [tCells_snoc T vs hl]; simpa using hrow, fun k b' u' h1 h2 => ?_⟩
  by_cases hk : k < T.length
  · rw [List.getElem?_append_left hk] at h1
    rw [List.getElem?_append_left (by omega)] at h2
    exact hh k b' u' h1 h2
  · rw [List.getElem?_append_right (by omega)] at h1
    rw [List.getElem?_append_right (by omega)] at h2
    have hk' : k = T.length := by
      have := (List.getElem?_eq_some_iff.1 h1).1
      simp at this; omega
    subst hk'
    simp only [Nat.sub_self, List.getElem?_cons_zero, Option.some.injEq] at h1
    rw [hl] at h2
    simp only [Nat.sub_self, List.getElem?_cons_zero, Option.some.injEq] at h2
    subst h1; subst h2
    exact hu
def OwnTo (w : World) (T : Tab) (e : Ending) (w' : World) : Prop := ∃ v, e = .returned v ∧ OwnTab w' w.heap.size v T ∧ Below w.heap.size w w'
set_option maxRecDepth 100000 in
set_option maxHeartbeats 4000000 in
theorem own_any (T : Tab) (v : Value) (ok : Nat → Prop) (w : World) (h : TabIs w ok v T) (hf : TFit T) :
    Calls Tryd.prog 48 #[v] w (OwnTo w T) := by
  obtain ⟨A, c, rfl, hc⟩ := h.form
  have hT := Lib.hid h.ltB
  have hlen := hf.len
  have hok := Lib.hid hf.ok
  clear h hf hc
  go_enter Tryd.func48, Tryd.ntmps48
  go_wp2
  go_loopw [8, 3] (fun i v wr => ∃ k : Nat, k ≤ T.length ∧ i = .int .i64 k ∧ OwnTab wr w.heap.size v (T.take k) ∧ Below w.heap.size w wr) (fun i _ _ => T.length - (intOf i).toNat)
  case atStart => exact ⟨0, Nat.zero_le _, rfl, OwnTab.nil, Below.refl _ _⟩
  case round =>
    obtain ⟨k, hk, rfl, hO, hb⟩ := hrel
    by_cases hlt : k < T.length
    · obtain ⟨b, o, u, rfl, hbl, _, hU, c0, c1⟩ := (hT.out.low hb).br k hlt
      have hbf := hok.out T[k] (List.getElem_mem hlt)
      have htk : Hid (T.take (k + 1) = T.take k ++ [T[k]]) := Lib.hid (take_at hlt)
      have hkl : (T.take k).length = k := by rw [List.length_take]; omega
      obtain ⟨br, hbr⟩ : ∃ br, br = T[k] := ⟨_, rfl⟩
      rw [← hbr] at hU c0 hbf htk
      obtain ⟨P, hP⟩ : ∃ P, P = T.take k := ⟨_, rfl⟩
      rw [← hP] at hO htk hkl
      clear hbr hP
      have hhf := hbf.heads
      have hhl := hbf.heads.len
      have hnl := hbf.name
      obtain ⟨n, hs⟩ := br
      dsimp only at hU c0 hhf hhl hnl
      obtain ⟨UA, uc, rfl, huc, _⟩ := id hU
      have hcells := Lib.hid (two_cells c0 c1)
      obtain ⟨hX1, hbx1⟩ := boxed wr 61 zeroBr [strV n, .slice UA hs.length uc]
      obtain ⟨W1, hW1⟩ : ∃ W1, W1 = (wr.alloc (.cells zeroBr.toArray 61)).setRow wr.heap.size [strV n, .slice UA hs.length uc].toArray := ⟨_, rfl⟩
      rw [← hW1] at hX1 hbx1
      replace hW1 := Lib.hid hW1
      have hone : Hid (∀ v ∈ [strV n, Value.slice UA hs.length uc], v.oneCell' = true) := Lib.hid (by simp [strV, Value.oneCell'])
      have hU1 := hU.low (hbx1.mono hb.size)
      have hO1 := hO.keepB hbx1
      have hbW := hb.trans (hbx1.mono hb.size)
      have d0 : W1.cell? ⟨wr.heap.size, 0, none⟩ = some (.string ⟨n.toArray⟩) := by rw [hX1.cell]; rfl
      have d1 : W1.cell? ⟨wr.heap.size, 1, none⟩ = some (.slice UA hs.length uc) := by rw [hX1.cell]; rfl
      have hgl : wr.heap.size < W1.heap.size := hX1.lt
      have i1 : (0 : Int) ≤ (k : Int) := by omega
      have i2 : (k : Int) < (T.length : Int) := by omega
      obtain ⟨vs, hvl, hrow, hheads⟩ := hO1
      obtain ⟨FA, fc, rfl, _, _⟩ := own_form hrow
      have hne : ∀ b, (Value.slice FA P.length fc).ownBlock = some b → b < wr.heap.size := by
        obtain ⟨_, _, ho, _⟩ := hO
        exact fun b hb => (ho.lt b hb).2
      rw [hkl] at hne
      rw [hkl] at hrow ⊢
      replace hrow := Lib.hid hrow
      replace hheads := Lib.hid hheads
      replace hU1 := Lib.hid hU1
      replace hbW := Lib.hid hbW
      replace hkl := Lib.hid hkl
      replace hvl := Lib.hid hvl
      clear c0 c1 hU hO hb hbx1 hX1 hbf
      go_wp2_with (first
        | (refine wpList_load_at 61 (.tmp 10) rfl rfl b (o + k * 2) rfl [strV n, .slice UA hs.length uc] hcells.out _ Tryd.underlying61 rfl brSz ?_; go_frame)
        | (refine wpList_store_blk rfl 61 (.tmp 5) (.tmp 11) rfl wr.heap.size [strV n, .slice UA hs.length uc] rfl rfl 61 zeroBr (Blk.new_at rfl) rfl brSz hone.out ?_; rw [show (wr.alloc (Obj.cells #[Value.string ⟨#[]⟩, Value.slice none 0 0] 61)).setRow wr.heap.size [strV n, .slice UA hs.length uc].toArray = W1 from hW1.out.symm]; go_frame))
      have hO1 : Hid (∀ W, Below W1.heap.size W1 W → W.ownsRow w.heap.size 61 2 (.slice FA k fc) k (tCells P vs) ∧ (∀ (k : Nat) b u, P[k]? = some b → vs[k]? = some u → HdIs W (DgAt W w.heap.size) u b.heads) ∧ HdIs W (· < w.heap.size) (.slice UA hs.length uc) hs ∧ Below w.heap.size w W ∧ W.cell? ⟨wr.heap.size, 0, none⟩ = some (.string ⟨n.toArray⟩) ∧ W.cell? ⟨wr.heap.size, 1, none⟩ = some (.slice UA hs.length uc)) := Lib.hid (fun W hW =>
        ⟨own_touch (L := []) hrow.out (Touch.ofBelow hW) (by simp), fun k b u h1 h2 => (hheads.out k b u h1 h2).keepB hW, hU1.out.stayB hW, hbW.out.trans (hW.mono hbW.out.size), (by rw [hW.cell (p := ⟨wr.heap.size, 0, none⟩) hgl]; exact d0), (by rw [hW.cell (p := ⟨wr.heap.size, 1, none⟩) hgl]; exact d1)⟩)
      have hS4 : Hid (∀ W o W4, Below W1.heap.size W1 W → (W.alloc o).grownBy W4 (Value.slice FA k fc).ownBlock → W4.cell? ⟨wr.heap.size, 0, none⟩ = some (.string ⟨n.toArray⟩) ∧ W4.cell? ⟨wr.heap.size, 1, none⟩ = some (.slice UA hs.length uc)) := Lib.hid (fun W o W4 hW hg => by
        have hlt : wr.heap.size < W.heap.size := Nat.lt_of_lt_of_le hgl hW.size
        have hblk : W4.heap[wr.heap.size]? = W.heap[wr.heap.size]? := (hg.block _ (by simp; omega) (fun e => by have := hne _ e.symm; omega)).trans (Below.heap_alloc W o _ hlt)
        have e0 : W4.cell? ⟨wr.heap.size, 0, none⟩ = W.cell? ⟨wr.heap.size, 0, none⟩ := World.cell?_of_block hblk
        have e1 : W4.cell? ⟨wr.heap.size, 1, none⟩ = W.cell? ⟨wr.heap.size, 1, none⟩ := World.cell?_of_block hblk
        rw [e0, e1]
        exact (hO1.out W hW).2.2.2.2)
      clear hne
      have hsz1 := hbW.out.size
      have hbd : Below W1.heap.size W1 W1.drew := (Below.refl _ _).drew
      clear hW1
      go_region_held3 (fun w' => w'.cell? ⟨wr.heap.size, 0, none⟩ = some (.string ⟨n.toArray⟩) ∧ w'.cell? ⟨wr.heap.size, 1, none⟩ = some (.slice UA hs.length uc)) (first | exact hS4.out _ _ _ hb3.out hg4.out | exact (hO1.out _ hb3.out).2.2.2.2 | go_keep)
        (first
          | (go_at_call 52; (with_reducible refine (clone_any hs _ _ W1.drew (hO1.out _ hbd).2.2.1 hhf).mono ?_); rintro e W3 ⟨cu, rfl, hcu, hb3'⟩; have hb3 := Lib.hid (hbd.trans hb3'); clear hb3'; obtain ⟨CA, cc, rfl, hcc1, hcc2⟩ := id hcu; replace hcu := Lib.hid hcu)
          | (refine step_append_rd _ rfl (.tmp 12) (.tmp 19) 22 rfl w.heap.size 61 (.agg zeroBr.toArray) 2 40 Tryd.underlying22 brInfo (.slice FA k fc) k (tCells P vs) rfl ((hO1.out _ hb3.out).1.alloc _) (fun _ => True) (some ⟨W3.heap.size, 0, none⟩) 1 1 [.string ⟨n.toArray⟩, .slice CA hs.length cc] rfl rfl (Rd.of_blk (cs := [.string ⟨n.toArray⟩, .slice CA hs.length cc]) (r := []) (Blk.new_at rfl) rfl trivial) (by simp [Value.oneCell']) (by unfold maxLen; omega) (by omega) (by have := hb3.out.size; simp; omega) ?_; intro v' W4 hrow4 hg4 hv4; replace hrow4 := Lib.hid hrow4; replace hg4 := Lib.hid hg4; obtain ⟨VA, vc, rfl, _, _⟩ := own_form hrow4.out))
      have hO3 := Lib.hid (hO1.out _ hb3.out)
      clear hO1 hS4 hcc2 hbd
      go_wp2
      go_roundw
      case rel =>
        obtain ⟨r3, h3, _, bw3, _⟩ := hO3.out
        have hba : Below W3.heap.size W3 (W3.alloc (Obj.cells #[Value.string ⟨n.toArray⟩, Value.slice CA hs.length cc] 61)) := (Below.refl _ _).alloc (Nat.le_refl _) _
        have hro := r3.alloc (Obj.cells #[Value.string ⟨n.toArray⟩, Value.slice CA hs.length cc] 61)
        refine ⟨k + 1, by omega, by go_num, ?_, ?_⟩
        · rw [htk.out]
          refine OwnTab.snoc (b := ⟨n, hs⟩) (vs := vs) hvl.out (fun k b u h1 h2 => ((h3 k b u h1 h2).keepB hba).keepRow hro (by decide) hg4.out) (((hcu.out.lower hsz1).keepB hba).keepRow hro (by decide) hg4.out) ?_
          rw [hkl.out]; exact hrow4.out
        · exact bw3.trans ((hba.mono bw3.size).trans (own_below hro hg4.out (by have := bw3.size; simp; omega)))
      case measure => simp [intOf]; omega
    · obtain rfl : k = T.length := by omega
      rw [List.take_length] at hO
      obtain ⟨FA, fc, rfl, _⟩ := hO.form
      replace hO := Lib.hid hO
      go_wp2
      go_ret
      exact ⟨_, rfl, hO.out, hb⟩
end Go.Proofs.YtlenmkemjaaaoaaDoor
end
