/- Words for the law RefsPlays: what Do leaves, what is spoilt of the changes that were handed in, the document's table. -/
import Derived.Test.YtlenmkemjaaaoaaDoorRfW8
namespace Go.Proofs.YtlenmkemjaaaoaaDoor
open Go.RowKit

theorem getT_self {T : Tab} (hs : sorted T) {k : Nat} (hk : k < T.length) : getT T T[k].name = T[k].heads :=
  getT_at hk (fun _ _ hj e => lessS_ne (sorted_lt hs hj hk) e) rfl
def oddN : Str := [110, 111, 32, 115, 117, 99, 104, 32, 110, 97, 109, 101]
theorem getT_odd {T : Tab} (hm : mayE T = 0) : getT T oddN = [] :=
  getT_far (fun b hb e => by
    have := (((mayE_zero T).1 hm).2.1 b hb).1
    rw [e] at this
    revert this; decide)
/-- A block below base, or one of a table. -/
def RK0 (base : Nat) (W : World) (b : Nat) : Prop := b < base ∨ ∃ cs, Blk W b 61 cs
def LTab (base : Nat) (W : World) (v : Value) (T : Tab) : Prop := TabIs W (RK0 base W) v T
theorem LTab.below {base : Nat} {W W' : World} {v : Value} {T : Tab} (h : LTab base W v T) (hb : Below W.heap.size W W') : LTab base W' v T :=
  TabIs.stay h (fun b _ hlt => hb.block b hlt) (fun b hb' hlt => by
    rcases hb' with h1 | ⟨cs, h1⟩
    · exact .inl h1
    · exact .inr ⟨cs, h1.below hb h1.lt⟩)
theorem LTab.keeps {base : Nat} {W W' : World} {v : Value} {T : Tab} (h : LTab base W v T) (hb : Below base W W') (hK : Keeps W W') : LTab base W' v T :=
  TabIs.stay h (fun b hb' _ => by
    rcases hb' with h1 | ⟨cs, h1⟩
    · exact hb.block b h1
    · have h2 := hK b _ cs h1 (by decide) (by decide) (by decide)
      unfold Blk at h1 h2
      rw [h1, h2]) (fun b hb' _ => by
    rcases hb' with h1 | ⟨cs, h1⟩
    · exact .inl h1
    · exact .inr ⟨cs, hK b _ cs h1 (by decide) (by decide) (by decide)⟩)
theorem OwnChs.keeps {W W' : World} {base : Nat} {v : Value} {C : List Chg} (h : OwnChs W base v C) (hK : Keeps W W') : OwnChs W' base v C := by
  obtain ⟨vs, hl, ⟨h1, ho⟩, hh⟩ := h
  have hd : ∀ b cs, base ≤ b → Blk W b 57 cs → Blk W' b 57 cs := fun b cs _ hB => hK b _ cs hB (by decide) (by decide) (by decide)
  refine ⟨vs, hl, ⟨h1, ?_⟩, fun k b u e1 e2 => ⟨(hh k b u e1 e2).1.keep hd, (hh k b u e1 e2).2.keep hd⟩⟩
  rcases ho with h0 | ⟨g, cap, cur, e, hb, hg, hc1, hc2, hc3, ht⟩
  · exact .inl h0
  · have hB : Blk W g 46 cur.toList := by unfold Blk; simpa using hg
    have hB' := hK g _ _ hB (by decide) (by decide) (by decide)
    exact .inr ⟨g, cap, cur, e, hb, by unfold Blk at hB'; simpa using hB', hc1, hc2, hc3, ht⟩
/-- What Do leaves: where the table that it made lies. -/
def DidX (w0 : World) (base rb g : Nat) (v : Value) (S : DS) (T : Tab) (C : List Chg) (W : World) (e : Ending) (W' : World) : Prop :=
  e = .returned (.int .i64 (applyE T C)) ∧ Keeps W W' ∧ Below base W W' ∧ if applyE T C = 0 then ∃ v' S' X', Ref w0 base rb g v' S' (applyT T C) W' ∧ Live S' X' ∧ TextOf X' (applyT T C) ∧ S'.room = S.room ∧ (OwnTab W' W.heap.size v' (applyT T C) ∨ (v' = v ∧ applyT T C = T ∧ Below W.heap.size W W')) else Ref w0 base rb g v S T W' ∧ Below W.heap.size W W'
theorem do_x {w0 : World} {base rb g : Nat} {v u : Value} {S : DS} {T : Tab} {W : World} {X : Option Str} {C : List Chg} {ok' : Nat → Prop} (h : Ref w0 base rb g v S T W) (hS : Live S X) (hX : TextOf X T) (hroom : 131072 ≤ S.room)
    (h' : ChsIs W ok' u C) (hc : CFit C) : Calls Tryd.prog 27 #[.pointer (some ⟨rb, 0, none⟩), u] W (DidX w0 base rb g v S T C W) := by
  obtain ⟨L, ⟨bn, bs, pv, hD, rfl⟩, hL⟩ := h.disk
  obtain ⟨hm, hh⟩ := hX.tok
  have hf := tfit_of hm hh
  have hd : cOk C := hc.cok
  by_cases hE : applyE T C ≠ 0 ∨ C = []
  · refine (do_early rb g v u T C _ ok' W h.ref h.own.tab hf h' hc hE).mono ?_
    rintro e W' ⟨he, hb⟩
    refine ⟨he, Keeps.below hb, hb.mono h.size, ?_⟩
    have hR := h.below hb
    by_cases h0 : applyE T C = 0
    · rw [if_pos h0]
      have hC : C = [] := hE.resolve_left (fun hn => hn h0)
      have hT : applyT T C = T := by unfold applyT; rw [if_pos h0, hC]; rfl
      rw [hT]
      exact ⟨v, S, X, hR, hS, hX, rfl, .inr ⟨rfl, rfl, hb⟩⟩
    · rw [if_neg h0]; exact ⟨hR, hb⟩
  · have hE0 : applyE T C = 0 := Decidable.byContradiction (fun hn => hE (.inl hn))
    have hC : C ≠ [] := fun hn => hE (.inr hn)
    obtain ⟨hm2, hh2⟩ := apply_may hE0 hh hd
    have hl1 := print_small hm2 hh2
    have hl2 := hX.len
    have hP : printT (applyT T C) = printS (applyT T C) := by unfold printT; rw [if_pos hm2]
    have hch : ChainOk S (printT (applyT T C)) := hS.chain (by rw [hP]; omega)
    refine (do_late rb g bn bs pv v u S T C _ ok' W h.ref h.own.tab hf h' hc hE0 hC (tfit_of hm2 hh2) (by rw [hP]; omega) hD hch.a0 hch.a1 hch.a2 hch.a3).mono ?_
    rintro e W' ⟨he, ht, ⟨L', hD', hL'⟩, nv, hB, hO⟩
    rw [hch.e] at he hB hO
    rw [hch.s] at hD'
    rw [if_pos rfl] at hO
    have hb : ∀ i ∈ rb :: foot g bn bs pv, base ≤ i := fun i hi => by
      rcases List.mem_cons.1 hi with rfl | hi
      · exact h.low
      · exact hL i hi
    refine ⟨by rw [he, hE0], fun k t cs hBk a b c => hBk.touch ht (fun hm => ?_), ht.below h.size hb, ?_⟩
    · rcases List.mem_cons.1 hm with rfl | hm
      · exact a (hBk.unique h.ref)
      · exact hD.tag hBk b c hm
    rw [if_pos hE0]
    refine ⟨nv, Live.after S (printT (applyT T C)), some (printT (applyT T C)), ⟨⟨h.bel.trans (ht.below h.size hb), Nat.le_trans h.size ht.size, L', hD', fun i hi => ?_⟩, h.low, hB, hO.lower h.size⟩, hch.live, .inr ⟨by rw [hP], hm2, hh2⟩, rfl, .inl hO⟩
    rcases hL' i hi with h1 | h1
    · exact hL i h1
    · exact Nat.le_trans h.size h1
/-- The blocks of digests from lo on and below hi. -/
def XK (W : World) (lo hi b : Nat) : Prop := lo ≤ b ∧ b < hi ∧ ∃ cs, Blk W b 57 cs
theorem XK.not {W : World} {lo hi b : Nat} {t : TypeId} {cs : List Value} (h : Blk W b t cs) (ht : t ≠ 57) : ¬ XK W lo hi b := fun ⟨_, _, _, h'⟩ => ht (h.unique h')
theorem Spoilt.keepB {ok : Nat → Prop} {W W' : World} (h : Spoilt ok W W') {B : Nat} (hB : B ≤ W.heap.size) (ho : ∀ b, b < B → ¬ ok b) : Below B W W' := ⟨h.os, h.tape, h.output, h.size, fun k hk => h.block k (by omega) (ho k hk)⟩
open Classical in
theorem Spoilt.touch {ok : Nat → Prop} {W W' : World} (h : Spoilt ok W W') : Touch ((List.range W.heap.size).filter fun i => decide (ok i)) W W' :=
  ⟨h.os, h.tape, h.output, h.size, fun i hi hn => h.block i hi (fun ho => hn (List.mem_filter.2 ⟨List.mem_range.2 hi, by simpa using ho⟩))⟩
theorem Spoilt.blk {W W' : World} {lo hi g : Nat} {t : TypeId} {cs : List Value} (h : Spoilt (XK W lo hi) W W') (hB : Blk W g t cs) (ht : t ≠ 57) : Blk W' g t cs := by
  have hlt := hB.lt
  have hn : ¬ XK W lo hi g := XK.not hB ht
  unfold Blk at *
  rw [h.block g hlt hn]
  exact hB
/-- A table whose heads lie outside of [lo, hi). -/
def OffX (W : World) (base lo hi : Nat) (v : Value) (T : Tab) : Prop := ∃ vs, vs.length = T.length ∧ W.ownsRow base 61 2 v T.length (tCells T vs) ∧ ∀ (k : Nat) b u, T[k]? = some b → vs[k]? = some u → HdIs W (fun b => DgAt W base b ∧ (b < lo ∨ hi ≤ b)) u b.heads
theorem OffX.of_old {W0 W : World} {base hi : Nat} {v : Value} {T : Tab} (h : OwnTab W0 base v T) (hb : Below W0.heap.size W0 W) : OffX W base W0.heap.size hi v T := by
  obtain ⟨vs, hl, ho, hh⟩ := h
  refine ⟨vs, hl, own_touch (L := []) ho (Touch.ofBelow hb) (by simp), fun k b u h1 h2 => (hh k b u h1 h2).stay (fun b _ hlt => hb.block b hlt) (fun b hB hlt => ⟨⟨hB.1, ?_⟩, .inl hlt⟩)⟩
  obtain ⟨_, cs, hB⟩ := hB
  exact ⟨cs, hB.below hb hB.lt⟩
theorem OffX.of_new {W : World} {base lo hi : Nat} {v : Value} {T : Tab} (h : OwnTab W hi v T) (hb : base ≤ hi) : OffX W base lo hi v T := by
  obtain ⟨vs, hl, ho, hh⟩ := h
  obtain ⟨e1, e2⟩ := ho
  have ho' : W.ownsRow base 61 2 v T.length (tCells T vs) := by
    refine ⟨e1, ?_⟩
    rcases e2 with e2 | ⟨gx, cap, cur, e3, e4, e5⟩
    · exact .inl e2
    · exact .inr ⟨gx, cap, cur, e3, by omega, e5⟩
  exact ⟨vs, hl, ho', fun k b u h1 h2 => (hh k b u h1 h2).stay (fun _ _ _ => rfl) (fun b hB _ => ⟨⟨Nat.le_trans hb hB.1, hB.2⟩, .inr hB.1⟩)⟩
theorem OffX.spoilt {W W' : World} {base lo hi : Nat} {v : Value} {T : Tab} (h : OffX W base lo hi v T) (sp : Spoilt (XK W lo hi) W W') : OwnTab W' base v T := by
  obtain ⟨vs, hl, ⟨e1, e2⟩, hh⟩ := h
  refine ⟨vs, hl, ⟨e1, ?_⟩, fun k b u h1 h2 => (hh k b u h1 h2).stay (fun b hB hlt => sp.block b hlt (fun hx => by
    have h1 := hx.1; have h2 := hx.2.1
    rcases hB.2 with h | h <;> omega)) (fun b hB hlt => ?_)⟩
  · rcases e2 with e2 | ⟨g, cap, cur, e3, e4, hg, e5⟩
    · exact .inl e2
    · have hB : Blk W g 61 cur.toList := by unfold Blk; simpa using hg
      have hB' := sp.blk hB (by decide)
      exact .inr ⟨g, cap, cur, e3, e4, by unfold Blk at hB'; simpa using hB', e5⟩
  · obtain ⟨⟨h1, cs, h2⟩, h3⟩ := hB
    refine ⟨h1, cs, ?_⟩
    unfold Blk at *
    rw [sp.block b hlt (fun hx => by
      have h1 := hx.1; have h2 := hx.2.1
      rcases h3 with h | h <;> omega)]
    exact h2
open Classical in
theorem Ses.spoilt {w0 : World} {base g : Nat} {S : DS} {W W' : World} {lo hi : Nat} (h : Ses w0 base g S W) (sp : Spoilt (XK W lo hi) W W') (hlo : base ≤ lo) : Ses w0 base g S W' := by
  obtain ⟨L, hd, hL⟩ := h.disk
  have hM : ∀ i ∈ (List.range W.heap.size).filter (fun i => decide (XK W lo hi i)), XK W lo hi i := fun i hi => by
    have := (List.mem_filter.1 hi).2
    simpa using this
  refine ⟨h.bel.trans (sp.keepB h.size (fun b hb hx => by have := hx.1; omega)), Nat.le_trans h.size sp.size, L, hd.touch sp.touch (fun i hi hm => ?_) (fun i hi cs hB => ?_), hL⟩
  · obtain ⟨_, _, cs, hB⟩ := hM i hm
    exact hd.tag hB (by decide) (by decide) hi
  · obtain ⟨_, _, cs', hB'⟩ := hM i hi
    have := hB.unique hB'
    revert this; decide
theorem Ref.spoilt {w0 : World} {base rb g : Nat} {v : Value} {S : DS} {T : Tab} {W W' : World} {lo hi : Nat} (h : Ref w0 base rb g v S T W) (sp : Spoilt (XK W lo hi) W W') (hlo : base ≤ lo) (ho : OffX W base lo hi v T) : Ref w0 base rb g v S T W' :=
  ⟨h.toSes.spoilt sp hlo, h.low, sp.blk h.ref (by decide), ho.spoilt sp⟩
theorem LTab.spoilt {base : Nat} {W W' : World} {v : Value} {T : Tab} {lo hi : Nat} (h : LTab base W v T) (sp : Spoilt (XK W lo hi) W W') (hlo : base ≤ lo) : LTab base W' v T :=
  TabIs.stay h (fun b hb' hlt => sp.block b hlt (fun hx => by
    rcases hb' with h1 | ⟨cs, h1⟩
    · have := hx.1; omega
    · exact XK.not h1 (by decide) hx)) (fun b hb' _ => by
    rcases hb' with h1 | ⟨cs, h1⟩
    · exact .inl h1
    · exact .inr ⟨cs, sp.blk h1 (by decide)⟩)
/-- The changes that were handed in, in the middle of being written over. -/
structure XI (W : World) (lo hi : Nat) (wr : World) : Prop where
  sp : Spoilt (XK W lo hi) W wr
  dig : ∀ b cs, Blk W b 57 cs → ∃ cs', Blk wr b 57 cs' ∧ cs'.length = cs.length
theorem XI.refl {W : World} {lo hi : Nat} : XI W lo hi W := ⟨Spoilt.refl _ _, fun _ cs h => ⟨cs, h, rfl⟩⟩
theorem XI.setDig {W : World} {lo hi : Nat} {wr : World} (h : XI W lo hi wr) {b : Nat} {cs cs' : List Value} (hlo : lo ≤ b) (hhi : b < hi) (h1 : Blk W b 57 cs) (new : List Value) (h2 : Blk wr b 57 cs') (hn : new.length = cs.length) : XI W lo hi (wr.setRow b new.toArray) := by
  refine ⟨h.sp.setRow ⟨hlo, hhi, _, h1⟩ _, fun b' cs2 hB => ?_⟩
  by_cases e : b' = b
  · subst e
    refine ⟨new, h2.setRow_same new, ?_⟩
    have e1 : cs2.toArray = cs.toArray := by
      unfold Blk at h1 hB
      rw [h1] at hB
      injection hB with hB
      injection hB with hB
      exact hB.symm
    have e2 := congrArg Array.size e1
    simp only [List.size_toArray] at e2
    rw [hn, e2]
  · obtain ⟨c', k1, k2⟩ := h.dig b' cs2 hB
    exact ⟨c', k1.setRow_far e _, k2⟩
/-- The row of changes of one's own, and where their new heads lie. -/
theorem OwnChs.rows {W1 W : World} {lo : Nat} {v : Value} {C : List Chg} (h : OwnChs W1 lo v C) (hK : Keeps W1 W) (hC : 0 < C.length) :
    ∃ g cap cur, v = .slice (some ⟨g, 0, none⟩) C.length cap ∧ Blk W g 46 cur ∧ ∀ k (hk : k < C.length), ∃ A c, cur[k * 3 + 2]? = some (.slice A C[k].new.length c) ∧
      ∀ q, q < C[k].new.length → hOk C[k].new → ∃ gd od cs, A = some ⟨gd, od, none⟩ ∧ lo ≤ gd ∧ gd < W1.heap.size ∧ Blk W gd 57 cs ∧ od + q * 32 + 32 ≤ cs.length := by
  obtain ⟨vs, hl, ⟨h1, ho⟩, hh⟩ := h
  rcases ho with ⟨_, h0⟩ | ⟨g, cap, cur, rfl, hb, hg, hc1, hc2, hc3, ht⟩
  · omega
  · have hB : Blk W1 g 46 cur.toList := by unfold Blk; simpa using hg
    refine ⟨g, cap, cur.toList, rfl, hK g _ _ hB (by decide) (by decide) (by decide), fun k hk => ?_⟩
    have hv : vs[k]? = some vs[k] := List.getElem?_eq_getElem (by omega)
    have hCk : C[k]? = some C[k] := List.getElem?_eq_getElem hk
    have e2 := cCells_at C vs hl k _ _ hCk hv 2 vs[k].2 rfl
    rw [← ht, List.getElem?_take, if_pos (by omega)] at e2
    have hn := (hh k _ _ hCk hv).2
    obtain ⟨A, c, eA, hc, _⟩ := id hn
    rw [eA] at hn e2
    refine ⟨A, c, e2, fun q hq hok => ?_⟩
    obtain ⟨gd, od, cs, rfl, q1, q2, q3⟩ := HdIs.blk hn hok q hq
    exact ⟨gd, od, cs, rfl, q1, q2.lt, hK gd _ _ q2 (by decide) (by decide) (by decide), q3⟩
def d88 : Str := 88 :: List.replicate 31 0
theorem all88 : ∀ v ∈ d88.map B, v.oneCell' = true := all_B d88
end Go.Proofs.YtlenmkemjaaaoaaDoor
