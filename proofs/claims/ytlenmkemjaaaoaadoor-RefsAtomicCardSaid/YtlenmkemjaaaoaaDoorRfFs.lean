/- Names on a disk with a fuse, plainly: what is left wherever the power goes. -/
import Derived.Test.YtlenmkemjaaaoaaDoorRfW8
namespace Go.Proofs.YtlenmkemjaaaoaaDoor
open Go.RowKit

theorem fuse_same {T : DS} (c : Call) (f : Int) (ho : T.off = false) (hf : T.fuse = -1) (h0 : 0 < f) : c.errno { T with fuse := f } = c.errno T ∧ c.turn { T with fuse := f } = { c.turn T with fuse := f - 1 } := by
  obtain ⟨now, sure, pend, room, fuse, off⟩ := T
  simp only at ho hf
  subst ho
  subst hf
  have t1 : (DS.mk now sure pend room (-1) false).tick = ⟨now, sure, pend, room, -1, false⟩ := by simp [DS.tick]; omega
  have t2 : (DS.mk now sure pend room f false).tick = ⟨now, sure, pend, room, f - 1, false⟩ := by
    simp [DS.tick]
    omega
  have he : ∀ g : Int, c.err ⟨now, sure, pend, room, g, false⟩ = c.err ⟨now, sure, pend, room, -1, false⟩ := fun g => by cases c <;> rfl
  have hd : ∀ g : Int, c.done ⟨now, sure, pend, room, g, false⟩ = { c.done ⟨now, sure, pend, room, -1, false⟩ with fuse := g } := fun g => by cases c <;> rfl
  refine ⟨?_, ?_⟩
  · unfold Call.errno
    simp only [t1, t2, he]
  · unfold Call.turn
    simp only [t1, t2, he, hd (f - 1)]
    split
    · rename_i h; cases h
    · split <;> rfl
theorem fuse_dead {T : DS} (c : Call) (f : Int) (o : Bool) (h : (o = true ∧ f = -1) ∨ (o = false ∧ f = 0)) : c.errno { T with fuse := f, off := o } = 15 ∧ c.turn { T with fuse := f, off := o } = { T with fuse := -1, off := true } := by
  obtain ⟨now, sure, pend, room, fuse, off⟩ := T
  have t1 : (DS.mk now sure pend room f o).tick = ⟨now, sure, pend, room, -1, true⟩ := by
    rcases h with ⟨rfl, rfl⟩ | ⟨rfl, rfl⟩
    · simp [DS.tick]
    · simp [DS.tick]
  exact ⟨by unfold Call.errno; simp only [t1]; rfl, by unfold Call.turn; simp only [t1]; rfl⟩

theorem Inv.lit {S : DS} {n : Nat} (h : Inv S n) {f : Int} (h0 : -1 ≤ f) (h1 : f ≤ 1000000) : Inv { S with fuse := f } n :=
  ⟨⟨⟨h.now, h.sure, h.ops, h.room0, h.room1, h0, h1⟩, h.sum, h.few, h.few'⟩, h.keys, h.keys', h.opn, h.len, h.re⟩
/-- Names that are alive, on a disk with a fuse. -/
structure LiveF (S : DS) (X : Option Str) (f : Int) : Prop where
  live : Live { S with fuse := -1 } X
  fuse : S.fuse = f
  f0 : 0 ≤ f
  f1 : f ≤ 1000
theorem LiveF.eq {S : DS} {X : Option Str} {f : Int} (h : LiveF S X f) : S = { ({ S with fuse := -1 } : DS) with fuse := f } := by
  have := h.fuse
  cases S
  simp only at this
  subst this
  rfl
theorem LiveF.inv {S : DS} {X : Option Str} {f : Int} (h : LiveF S X f) : Inv S 0 := by
  rw [h.eq]
  exact h.live.inv.lit (by have := h.f0; omega) (by have := h.f1; omega)
/-- What a crash may leave: the file's text is X; whether the other file is there does not matter. -/
structure HalfOk (D : DM) (X : Option Str) : Prop where
  map : StrMap D
  file : fHas D fileN = X.isSome
  text : fS D fileN = X.getD []
  sum : fSum D ≤ 300000
  len : fLen D ≤ 10
theorem Holds.half {D : DM} {X : Option Str} (h : Holds D X) (hX : (X.getD []).length ≤ 65536) : HalfOk D X :=
  ⟨h.map, h.file, h.text, by rw [h.sum]; omega, by rw [h.len]; split <;> omega⟩
theorem Holds.half_put {D : DM} {X : Option Str} (h : Holds D X) (hX : (X.getD []).length ≤ 65536) (t : Str) (ht : t.length ≤ 65536) : HalfOk (fPut D nextN t) X := by
  have q1 := fSum_put h.map nextN t
  have l1 := fLen_put_le (k := nextN) (t := t) h.map
  have l2 := h.len
  have s1 := h.sum
  refine ⟨h.map.put _ _, by rw [fHas_put_other nf]; exact h.file, by rw [fS_put_other nf]; exact h.text, by omega, ?_⟩
  split at l2 <;> omega
theorem Holds.half_write {D : DM} {X : Option Str} (h : Holds D X) (t : Str) (ht : t.length ≤ 65536) : HalfOk (fPut (fDel (fPut D nextN t) nextN) fileN t) (some t) := (h.write t).half ht
/-- What there may be behind a crash of the disk S. -/
structure After (S : DS) (X Y : Option Str) : Prop where
  fit : S.Fit
  few : fLen S.sure ≤ 600
  pend : S.pend.length ≤ 4
  room : S.room = 1048576
  end_ : ∀ l, HalfOk (crashTo S.pend l S.sure) X ∨ HalfOk (crashTo S.pend l S.sure) Y
theorem cutT_len (t : List UInt8) (k : Int) : (cutT t k).length ≤ t.length := by
  unfold cutT
  split
  · rw [List.length_take]; omega
  · exact Nat.le_refl _
/-- The four calls under a fuse. -/
structure FuseTo (S : DS) (X : Option Str) (t : Str) (f : Int) : Prop where
  a0 : Asked S
  a1 : Asked ((Call.write nextN t).turn S)
  a2 : Asked (Call.sync.turn ((Call.write nextN t).turn S))
  a3 : Asked ((Call.rename nextN fileN).turn (Call.sync.turn ((Call.write nextN t).turn S)))
  res : (chainE S (doCalls t) = 0 ∧ LiveF (chainS S (doCalls t)) (some t) (f - 4) ∧ (chainS S (doCalls t)).room = S.room) ∨ (chainE S (doCalls t) = 15 ∧ After (chainS S (doCalls t)) X (some t))
theorem LiveF.chain {S : DS} {X : Option Str} {f : Int} (h : LiveF S X f) (hroom : S.room = 1048576) (hX : (X.getD []).length ≤ 65536) {t : Str} (ht : t.length ≤ 65536) : FuseTo S X t f := by
  have i0 := h.inv
  have i1 := i0.turn (Call.write nextN t)
  have i2 := i1.turn Call.sync
  have i3 := i2.turn (Call.rename nextN fileN)
  have i4 := i3.turn Call.sync
  refine ⟨i0.asked (by omega), i1.asked (by omega), i2.asked (by omega), i3.asked (by omega), ?_⟩
  have hS := h.eq
  have f0 := h.f0
  have f1 := h.f1
  obtain ⟨L, hL⟩ : ∃ L : DS, L = { S with fuse := -1 } := ⟨_, rfl⟩
  have hlive := h.live
  rw [← hL] at hS hlive
  have hLr : L.room = 1048576 := by rw [hL]; exact hroom
  clear hL h
  -- the calls without a fuse
  have e := hlive.full t
  rw [if_neg (by rw [hLr]; omega)] at e
  have w1 : (Call.write nextN t).errno L = 0 := (live_err _ hlive.off hlive.fuse).trans e
  have t1 : (Call.write nextN t).turn L = L.does (.write nextN t) := by rw [live_turn _ hlive.off hlive.fuse, e]; rfl
  have o1 : (L.does (.write nextN t)).off = false := hlive.off
  have g1 : (L.does (.write nextN t)).fuse = -1 := hlive.fuse
  have w2 : Call.sync.errno (L.does (.write nextN t)) = 0 := live_err _ o1 g1
  have t2 : Call.sync.turn (L.does (.write nextN t)) = { L with now := fPut L.now nextN t, sure := fPut L.now nextN t, pend := [] } := by rw [live_turn _ o1 g1]; rfl
  obtain ⟨S2, hS2⟩ : ∃ S2 : DS, S2 = { L with now := fPut L.now nextN t, sure := fPut L.now nextN t, pend := [] } := ⟨_, rfl⟩
  have o2 : S2.off = false := by rw [hS2]; exact hlive.off
  have g2 : S2.fuse = -1 := by rw [hS2]; exact hlive.fuse
  have h2 : fHas S2.now nextN = true := by rw [hS2]; exact fHas_put_same hlive.holds.map
  have s2 : fS S2.now nextN = t := by rw [hS2]; exact fS_put_same hlive.holds.map
  have e3 : (Call.rename nextN fileN).err S2 = 0 := by
    show (if (nameB nextN && nameB fileN) = true then (if fHas S2.now nextN = true then (0 : Int) else 5) else 11) = 0
    rw [if_pos (by decide), if_pos h2]
  have w3 : (Call.rename nextN fileN).errno S2 = 0 := (live_err _ o2 g2).trans e3
  have t3 : (Call.rename nextN fileN).turn S2 = S2.does (.rename nextN fileN) := by rw [live_turn _ o2 g2, e3]; rfl
  have o3 : (S2.does (.rename nextN fileN)).off = false := o2
  have g3 : (S2.does (.rename nextN fileN)).fuse = -1 := g2
  have w4 : Call.sync.errno (S2.does (.rename nextN fileN)) = 0 := live_err _ o3 g3
  rw [← hS2] at t2
  have hch := hlive.chain (t := t) (by rw [hLr]; omega)
  have hE4 : Call.sync.turn (S2.does (.rename nextN fileN)) = Live.after L t := by
    have := hch.s
    unfold doCalls at this
    rw [chainS, if_pos w1, t1, chainS, if_pos w2, t2, chainS, if_pos w3, t3, chainS, if_pos w4] at this
    exact this
  have d0 : ∀ (T : DS) (c : Call), T.off = false → T.fuse = -1 → c.errno { T with fuse := 0 } = 15 ∧ c.turn { T with fuse := 0 } = { T with fuse := -1, off := true } := fun T c ho _ => by
    have := fuse_dead (T := T) c 0 false (.inr ⟨rfl, rfl⟩)
    have e : ({ T with fuse := 0, off := false } : DS) = { T with fuse := 0 } := by
      cases T; simp only at ho; subst ho; rfl
    rwa [e] at this
  have hfit : ∀ T : DS, T.Fit → ({ T with fuse := -1, off := true } : DS).Fit := fun T h => ⟨h.now, h.sure, h.ops, h.room0, h.room1, Int.le_refl _, show (-1 : Int) ≤ 1000000 by decide⟩
  rw [hS] at i0 i1 i2 i3 i4 ⊢
  have hsure := hlive.sure
  have hpend := hlive.pend
  by_cases c0 : f = 0
  · subst c0
    obtain ⟨q1, q2⟩ := d0 L (Call.write nextN t) hlive.off hlive.fuse
    refine .inr ⟨by unfold doCalls; rw [chainE, if_neg (by rw [q1]; decide), q1], ?_⟩
    have hc : chainS { L with fuse := 0 } (doCalls t) = { L with fuse := -1, off := true } := by unfold doCalls; rw [chainS, if_neg (by rw [q1]; decide), q2]
    rw [hc]
    refine ⟨hfit _ hlive.inv.toFit, hlive.inv.few', by show L.pend.length ≤ 4; rw [hpend]; simp, hLr, fun l => .inl ?_⟩
    show HalfOk (crashTo L.pend l L.sure) X
    rw [hpend, hsure]
    exact hlive.holds.half hX
  · obtain ⟨p1, p2⟩ := fuse_same (T := L) (Call.write nextN t) f hlive.off hlive.fuse (by omega)
    rw [w1] at p1
    rw [t1] at p2
    by_cases c1 : f = 1
    · subst c1
      obtain ⟨q1, q2⟩ := d0 (L.does (.write nextN t)) Call.sync o1 g1
      rw [show (1 : Int) - 1 = 0 by omega] at p2
      refine .inr ⟨by unfold doCalls; rw [chainE, if_pos p1, p2, chainE, if_neg (by rw [q1]; decide), q1], ?_⟩
      have hc : chainS { L with fuse := 1 } (doCalls t) = { L.does (.write nextN t) with fuse := -1, off := true } := by unfold doCalls; rw [chainS, if_pos p1, p2, chainS, if_neg (by rw [q1]; decide), q2]
      rw [hc]
      have iv := hlive.inv.turn (Call.write nextN t)
      rw [t1] at iv
      have hpe : (L.does (.write nextN t)).pend = [.write nextN t] := by show L.pend ++ [_] = _; rw [hpend]; rfl
      refine ⟨hfit _ iv.toFit, iv.few', by show (L.does (.write nextN t)).pend.length ≤ 4; rw [hpe]; simp, hLr, fun l => .inl ?_⟩
      show HalfOk (crashTo (L.does (.write nextN t)).pend l L.sure) X
      rw [hpe, hsure]
      show HalfOk (if 0 < l.headD 0 then fPut L.now nextN (cutT t (l.headD 0)) else L.now) X
      split
      · exact hlive.holds.half_put hX _ (Nat.le_trans (cutT_len t _) ht)
      · exact hlive.holds.half hX
    · obtain ⟨p3, p4⟩ := fuse_same (T := L.does (.write nextN t)) Call.sync (f - 1) o1 g1 (by omega)
      rw [w2] at p3
      rw [t2] at p4
      by_cases c2 : f = 2
      · subst c2
        obtain ⟨q1, q2⟩ := d0 S2 (Call.rename nextN fileN) o2 g2
        rw [show (2 : Int) - 1 - 1 = 0 by omega] at p4
        refine .inr ⟨by unfold doCalls; rw [chainE, if_pos p1, p2, chainE, if_pos p3, p4, chainE, if_neg (by rw [q1]; decide), q1], ?_⟩
        have hc : chainS { L with fuse := 2 } (doCalls t) = { S2 with fuse := -1, off := true } := by unfold doCalls; rw [chainS, if_pos p1, p2, chainS, if_pos p3, p4, chainS, if_neg (by rw [q1]; decide), q2]
        rw [hc]
        have iv := (hlive.inv.turn (Call.write nextN t)).turn Call.sync
        rw [t1, t2] at iv
        refine ⟨hfit _ iv.toFit, iv.few', by show S2.pend.length ≤ 4; rw [hS2]; simp, by show S2.room = _; rw [hS2]; exact hLr, fun l => .inl ?_⟩
        show HalfOk (crashTo S2.pend l S2.sure) X
        rw [hS2]
        exact hlive.holds.half_put hX t ht
      · obtain ⟨p5, p6⟩ := fuse_same (T := S2) (Call.rename nextN fileN) (f - 1 - 1) o2 g2 (by omega)
        rw [w3] at p5
        rw [t3] at p6
        by_cases c3 : f = 3
        · subst c3
          obtain ⟨q1, q2⟩ := d0 (S2.does (.rename nextN fileN)) Call.sync o3 g3
          rw [show (3 : Int) - 1 - 1 - 1 = 0 by omega] at p6
          refine .inr ⟨by unfold doCalls; rw [chainE, if_pos p1, p2, chainE, if_pos p3, p4, chainE, if_pos p5, p6, chainE, if_neg (by rw [q1]; decide), q1], ?_⟩
          have hc : chainS { L with fuse := 3 } (doCalls t) = { S2.does (.rename nextN fileN) with fuse := -1, off := true } := by unfold doCalls; rw [chainS, if_pos p1, p2, chainS, if_pos p3, p4, chainS, if_pos p5, p6, chainS, if_neg (by rw [q1]; decide), q2]
          rw [hc]
          have iv := ((hlive.inv.turn (Call.write nextN t)).turn Call.sync).turn (Call.rename nextN fileN)
          rw [t1, t2, t3] at iv
          have hpe : (S2.does (.rename nextN fileN)).pend = [.rename nextN fileN] := by show S2.pend ++ [_] = _; rw [hS2]; rfl
          have hsu : (S2.does (.rename nextN fileN)).sure = fPut L.now nextN t := by show S2.sure = _; rw [hS2]
          refine ⟨hfit _ iv.toFit, iv.few', by show (S2.does (.rename nextN fileN)).pend.length ≤ 4; rw [hpe]; simp, by show S2.room = _; rw [hS2]; exact hLr, fun l => ?_⟩
          show HalfOk (crashTo (S2.does (.rename nextN fileN)).pend l (S2.does (.rename nextN fileN)).sure) X ∨ HalfOk (crashTo (S2.does (.rename nextN fileN)).pend l (S2.does (.rename nextN fileN)).sure) (some t)
          rw [hpe, hsu]
          have hr : crashTo [.rename nextN fileN] l (fPut L.now nextN t) = if 0 < l.headD 0 then fPut (fDel (fPut L.now nextN t) nextN) fileN t else fPut L.now nextN t := by
            show (if 0 < l.headD 0 then (if fHas (fPut L.now nextN t) nextN = true then fPut (fDel (fPut L.now nextN t) nextN) fileN (fS (fPut L.now nextN t) nextN) else fPut L.now nextN t) else fPut L.now nextN t) = _
            rw [if_pos (fHas_put_same hlive.holds.map), fS_put_same hlive.holds.map]
          rw [hr]
          split
          · exact .inr (hlive.holds.half_write t ht)
          · exact .inl (hlive.holds.half_put hX t ht)
        · obtain ⟨p7, p8⟩ := fuse_same (T := S2.does (.rename nextN fileN)) Call.sync (f - 1 - 1 - 1) o3 g3 (by omega)
          rw [w4] at p7
          rw [hE4] at p8
          have hf4 : f - 1 - 1 - 1 - 1 = f - 4 := by omega
          rw [hf4] at p8
          have hc : chainS { L with fuse := f } (doCalls t) = { Live.after L t with fuse := f - 4 } := by unfold doCalls; rw [chainS, if_pos p1, p2, chainS, if_pos p3, p4, chainS, if_pos p5, p6, chainS, if_pos p7, p8]; rfl
          refine .inl ⟨by unfold doCalls; rw [chainE, if_pos p1, p2, chainE, if_pos p3, p4, chainE, if_pos p5, p6, chainE, if_pos p7]; rfl, ?_, by rw [hc]; rfl⟩
          rw [hc]
          have hl := hch.live
          have : ({ ({ Live.after L t with fuse := f - 4 } : DS) with fuse := -1 } : DS) = Live.after L t := by
            have := hl.fuse
            cases hq : Live.after L t
            rw [hq] at this
            simp only at this
            subst this
            rfl
          exact ⟨by rw [this]; exact hl, rfl, by omega, by omega⟩
theorem LiveF.after {S : DS} {X : Option Str} {f : Int} (h : LiveF S X f) (hroom : S.room = 1048576) (hX : (X.getD []).length ≤ 65536) : After S X X := by
  have hp : S.pend = [] := h.live.pend
  have hs : S.sure = S.now := h.live.sure
  refine ⟨h.inv.toFit, h.inv.few', by rw [hp]; simp, hroom, fun l => .inl ?_⟩
  rw [hp, hs]
  exact h.live.holds.half hX
/-- What Open makes of what is left. -/
theorem half_open {D : DM} {X : Option Str} {T : Tab} (h : HalfOk D X) (hX : TextOf X T) {S : DS} (hn : S.now = D) (ho : S.off = false) (hf : S.fuse = -1) : openE S = 0 ∧ openT S = T ∧ ((openS S).readT fileN).length ≤ 1073741824 := by
  have hlen := hX.len
  have e : (Call.remove nextN).err S = if fHas D nextN = true then 0 else 5 := by
    show (if nameB nextN = true then (if fHas S.now nextN = true then (0 : Int) else 5) else 11) = _
    rw [if_pos (by decide), hn]
  have hO : (openS S).off = false ∧ fHas (openS S).now fileN = X.isSome ∧ fS (openS S).now fileN = X.getD [] := by
    unfold openS
    rw [live_turn _ ho hf, e]
    by_cases hh : fHas D nextN = true
    · rw [if_pos hh, if_pos rfl]
      refine ⟨ho, ?_, ?_⟩
      · show fHas (fDel S.now nextN) fileN = _
        rw [hn, fHas_del_other nf]; exact h.file
      · show fS (fDel S.now nextN) fileN = _
        rw [hn, fS_del_other nf]; exact h.text
    · rw [if_neg hh, if_neg (by decide)]
      exact ⟨ho, by rw [hn]; exact h.file, by rw [hn]; exact h.text⟩
  obtain ⟨o1, o2, o3⟩ := hO
  have hE : (Call.remove nextN).errno S ≠ 15 := by
    rw [live_err _ ho hf, e]
    split <;> decide
  have hR : (openS S).readE fileN = if X.isSome then 0 else 5 := by
    unfold DS.readE
    rw [o1, o2, show nameB fileN = true by decide]
    simp
  have hT : (openS S).readT fileN = X.getD [] := by
    unfold DS.readT
    rw [o1, o3, show nameB fileN = true by decide]
    simp
  refine ⟨?_, ?_, by rw [hT]; omega⟩
  · unfold openE
    rw [if_neg hE, hR, hT]
    rcases hX with ⟨rfl, rfl⟩ | ⟨rfl, hm, hh⟩
    · rfl
    · have := (parse_print hm hh).1
      simp [this]
  · unfold openT
    rw [hR, hT]
    rcases hX with ⟨rfl, rfl⟩ | ⟨rfl, hm, hh⟩
    · rfl
    · have := (parse_print hm hh).2
      simp [this]
end Go.Proofs.YtlenmkemjaaaoaaDoor
