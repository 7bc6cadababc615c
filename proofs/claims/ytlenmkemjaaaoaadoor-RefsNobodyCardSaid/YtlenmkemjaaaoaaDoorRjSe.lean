/- Joined: RfSt, RfRt, RfSe, RfPl, RfDl. -/
import Derived.Test.YtlenmkemjaaaoaaDoorRjDo
import Derived.Test.YtlenmkemjaaaoaaDoorDkV
import Derived.Test.YtlenmkemjaaaoaaDoorRjPa
import Derived.Test.YtlenmkemjaaaoaaDoorRfP
import Derived.Test.YtlenmkemjaaaoaaDoorBackS
import Derived.Test.YtlenmkemjaaaoaaDoorRjCD
import Derived.Test.YtlenmkemjaaaoaaDoorDkF
import Derived.Test.YtlenmkemjaaaoaaDoorRjApp
section
/- The disk of a table of names, in plain words. -/
namespace Go.Proofs.YtlenmkemjaaaoaaDoor

structure Holds (D : DM) (X : Option Str) : Prop where
  map : StrMap D
  next : fHas D nextN = false
  file : fHas D fileN = X.isSome
  text : fS D fileN = X.getD []
  len : fLen D = if X.isSome then 1 else 0
  sum : fSum D = (X.getD []).length
/-- A disk that is on, and sure of all it holds. -/
structure Live (S : DS) (X : Option Str) : Prop where
  inv : Inv S 0
  off : S.off = false
  fuse : S.fuse = -1
  sure : S.sure = S.now
  holds : Holds S.now X
section
variable {S : DS} {X : Option Str}
theorem Live.pend (h : Live S X) : S.pend = [] := List.eq_nil_of_length_eq_zero (Nat.le_zero.1 h.inv.len)
theorem tick_live {S : DS} (ho : S.off = false) (hf : S.fuse = -1) : S.tick = S := by
  obtain ⟨a, b, c, d, e, f⟩ := S
  simp only at ho hf
  subst ho; subst hf
  rfl
theorem Live.new {room : Int} (h0 : 0 ≤ room) (h1 : room ≤ 16777216) : Live (DS.new room) none :=
  ⟨Inv.new h0 h1, rfl, rfl, rfl, ⟨StrMap.nil, rfl, rfl, rfl, rfl, rfl⟩⟩
theorem Live.openS (h : Live S X) : Proofs.YtlenmkemjaaaoaaDoor.openS S = S := by
  have e : (Call.remove nextN).err S = 5 := by
    show (if nameB nextN = true then (if fHas S.now nextN = true then (0 : Int) else 5) else 11) = 5
    rw [if_pos (by decide), h.holds.next]; rfl
  unfold Proofs.YtlenmkemjaaaoaaDoor.openS Call.turn
  rw [tick_live h.off h.fuse, h.off, e]
  rfl
theorem Live.readE (h : Live S X) : S.readE fileN = if X.isSome then 0 else 5 := by
  unfold DS.readE
  rw [h.off, h.holds.file]
  rw [show nameB fileN = true by decide]
  simp
theorem Live.readT (h : Live S X) : S.readT fileN = X.getD [] := by
  unfold DS.readT
  rw [h.off, h.holds.text]
  rw [show nameB fileN = true by decide]
  simp
theorem Live.removeE (h : Live S X) : (Call.remove nextN).errno S = 5 := by
  have e : (Call.remove nextN).err S = 5 := by
    show (if nameB nextN = true then (if fHas S.now nextN = true then (0 : Int) else 5) else 11) = 5
    rw [if_pos (by decide), h.holds.next]; rfl
  unfold Call.errno
  rw [tick_live h.off h.fuse, h.off, e]
  rfl
theorem Live.openE_none (h : Live S none) : openE S = 0 ∧ openT S = [] := by
  unfold openE openT
  rw [h.openS, h.removeE, h.readE]
  exact ⟨rfl, rfl⟩
theorem Live.openE_some {t : Str} (h : Live S (some t)) (hp : parseOk t = true) : openE S = 0 ∧ openT S = looseT t := by
  unfold openE openT
  rw [h.openS, h.removeE, h.readE, h.readT]
  simp [hp]
theorem Live.crash (h : Live S X) (l : List Int) : Live (S.crash l) X := by
  have e : S.crash l = { S with now := S.sure, sure := S.sure, pend := [], fuse := -1, off := false } := by
    unfold DS.crash; rw [h.pend]; rfl
  have e2 : S.crash l = S := by
    rw [e]
    obtain ⟨a, b, c, d, f, g⟩ := S
    have h1 := h.off; have h2 := h.fuse; have h3 := h.sure; have h4 := h.pend
    simp only at h1 h2 h3 h4
    subst h1; subst h2; subst h3; subst h4
    rfl
  rw [e2]; exact h
theorem live_err {S : DS} (c : Call) (ho : S.off = false) (hf : S.fuse = -1) : c.errno S = c.err S := by
  unfold Call.errno
  rw [tick_live ho hf, ho]; rfl
theorem live_turn {S : DS} (c : Call) (ho : S.off = false) (hf : S.fuse = -1) : c.turn S = if c.err S = 0 then c.done S else S := by
  unfold Call.turn
  rw [tick_live ho hf, ho]; rfl
theorem Live.full (h : Live S X) (t : Str) : (Call.write nextN t).err S = if S.room < (t.length : Int) + ((X.getD []).length : Int) then 14 else 0 := by
  show (if nameB nextN = true then (if fullB S nextN t = true then (14 : Int) else 0) else 11) = _
  rw [if_pos (by decide)]
  have hn : fS S.now nextN = [] := fS_none h.holds.next
  have hl := h.holds.len
  have : fullB S nextN t = decide (S.room < (t.length : Int) + ((X.getD []).length : Int)) := by
    unfold fullB
    rw [hn, h.holds.next, h.holds.sum, hl]
    have : decide (600 < (if X.isSome = true then 1 else 0) + (if false = true then 0 else 1)) = false := by
      cases X <;> simp
    rw [this, Bool.or_false]
    simp only [List.length_nil, Int.ofNat_zero]
    exact decide_eq_decide.2 ⟨fun _ => by omega, fun _ => by omega⟩
  rw [this]
  by_cases hc : S.room < (t.length : Int) + ((X.getD []).length : Int) <;> simp [hc]
theorem Live.chain_full (h : Live S X) {t : Str} (hc : S.room < (t.length : Int) + ((X.getD []).length : Int)) : chainE S (doCalls t) = 14 ∧ chainS S (doCalls t) = S := by
  have e := h.full t
  rw [if_pos hc] at e
  unfold doCalls chainE chainS
  rw [live_err _ h.off h.fuse, live_turn _ h.off h.fuse, e]
  exact ⟨rfl, rfl⟩
theorem nf : fileN ≠ nextN := by decide
theorem Holds.write {D : DM} {X : Option Str} (h : Holds D X) (t : Str) : Holds (fPut (fDel (fPut D nextN t) nextN) fileN t) (some t) := by
  have m1 : StrMap (fPut D nextN t) := h.map.put _ _
  have m2 : StrMap (fDel (fPut D nextN t) nextN) := m1.del _
  have f2 : fHas (fDel (fPut D nextN t) nextN) fileN = X.isSome := by rw [fHas_del_other nf, fHas_put_other nf]; exact h.file
  have s2 : fS (fDel (fPut D nextN t) nextN) fileN = X.getD [] := by rw [fS_del_other nf, fS_put_other nf]; exact h.text
  have l1 := fLen_put (k := nextN) (t := t) h.map
  rw [h.next] at l1
  have l2 := fLen_del (k := nextN) m1
  rw [fHas_put_same h.map] at l2
  have l3 := fLen_put (k := fileN) (t := t) m2
  rw [f2] at l3
  have q1 := fSum_put h.map nextN t
  rw [fS_none h.next] at q1
  have q2 := fSum_del (k := nextN) m1
  rw [fS_put_same h.map] at q2
  have q3 := fSum_put m2 fileN t
  rw [s2] at q3
  have hl := h.len
  have hs := h.sum
  refine ⟨m2.put _ _, ?_, fHas_put_same m2, fS_put_same m2, ?_, ?_⟩
  · rw [fHas_put_other (Ne.symm nf)]; exact fHas_del_same
  · rw [l3]
    simp at l1 l2
    cases X <;> simp at hl ⊢ <;> omega
  · simp at q1 ⊢
    omega
/-- What the four calls leave. -/
def Live.after (S : DS) (t : Str) : DS := { S with now := fPut (fDel (fPut S.now nextN t) nextN) fileN t, sure := fPut (fDel (fPut S.now nextN t) nextN) fileN t, pend := [] }
structure ChainOk (S : DS) (t : Str) : Prop where
  e : chainE S (doCalls t) = 0
  s : chainS S (doCalls t) = Live.after S t
  live : Live (Live.after S t) (some t)
  a0 : Asked S
  a1 : Asked ((Call.write nextN t).turn S)
  a2 : Asked (Call.sync.turn ((Call.write nextN t).turn S))
  a3 : Asked ((Call.rename nextN fileN).turn (Call.sync.turn ((Call.write nextN t).turn S)))
theorem Live.chain (h : Live S X) {t : Str} (hc : ¬ S.room < (t.length : Int) + ((X.getD []).length : Int)) : ChainOk S t := by
  have i1 := h.inv.turn (Call.write nextN t)
  have i2 := i1.turn Call.sync
  have i3 := i2.turn (Call.rename nextN fileN)
  have i4 := i3.turn Call.sync
  have e := h.full t
  rw [if_neg hc] at e
  have w1 : (Call.write nextN t).errno S = 0 := (live_err _ h.off h.fuse).trans e
  have t1 : (Call.write nextN t).turn S = S.does (.write nextN t) := by rw [live_turn _ h.off h.fuse, e]; rfl
  have o1 : (S.does (.write nextN t)).off = false := h.off
  have f1 : (S.does (.write nextN t)).fuse = -1 := h.fuse
  have n1 : (S.does (.write nextN t)).now = fPut S.now nextN t := by show fPut S.now nextN (cutT t 1) = _; rfl
  have w2 : Call.sync.errno (S.does (.write nextN t)) = 0 := live_err _ o1 f1
  have t2 : Call.sync.turn (S.does (.write nextN t)) = { S with now := fPut S.now nextN t, sure := fPut S.now nextN t, pend := [] } := by rw [live_turn _ o1 f1]; rfl
  obtain ⟨S2, hS2⟩ : ∃ S2 : DS, S2 = { S with now := fPut S.now nextN t, sure := fPut S.now nextN t, pend := [] } := ⟨_, rfl⟩
  have o2 : S2.off = false := by rw [hS2]; exact h.off
  have f2 : S2.fuse = -1 := by rw [hS2]; exact h.fuse
  have h2 : fHas S2.now nextN = true := by rw [hS2]; exact fHas_put_same h.holds.map
  have s2 : fS S2.now nextN = t := by rw [hS2]; exact fS_put_same h.holds.map
  have e3 : (Call.rename nextN fileN).err S2 = 0 := by
    show (if (nameB nextN && nameB fileN) = true then (if fHas S2.now nextN = true then (0 : Int) else 5) else 11) = 0
    rw [if_pos (by decide), if_pos h2]
  have w3 : (Call.rename nextN fileN).errno S2 = 0 := (live_err _ o2 f2).trans e3
  have t3 : (Call.rename nextN fileN).turn S2 = S2.does (.rename nextN fileN) := by rw [live_turn _ o2 f2, e3]; rfl
  have n3 : (S2.does (.rename nextN fileN)).now = fPut (fDel (fPut S.now nextN t) nextN) fileN t := by
    show (if fHas S2.now nextN = true then fPut (fDel S2.now nextN) fileN (fS S2.now nextN) else S2.now) = _
    rw [if_pos h2, s2, hS2]
  have o3 : (S2.does (.rename nextN fileN)).off = false := o2
  have f3 : (S2.does (.rename nextN fileN)).fuse = -1 := f2
  have w4 : Call.sync.errno (S2.does (.rename nextN fileN)) = 0 := live_err _ o3 f3
  have t4 : Call.sync.turn (S2.does (.rename nextN fileN)) = Live.after S t := by
    rw [live_turn _ o3 f3]
    show (⟨(S2.does (.rename nextN fileN)).now, (S2.does (.rename nextN fileN)).now, [], S2.room, S2.fuse, S2.off⟩ : DS) = ⟨fPut (fDel (fPut S.now nextN t) nextN) fileN t, fPut (fDel (fPut S.now nextN t) nextN) fileN t, [], S.room, S.fuse, S.off⟩
    rw [n3, hS2]
  rw [t1] at i1 i2 i3 i4
  rw [t2, ← hS2] at i2 i3 i4
  rw [t3] at i3 i4
  rw [t4] at i4
  have hE : chainE S (doCalls t) = 0 := by
    unfold doCalls
    rw [chainE, if_pos w1, t1, chainE, if_pos w2, t2, ← hS2, chainE, if_pos w3, t3, chainE, if_pos w4]
    rfl
  have hS : chainS S (doCalls t) = Live.after S t := by
    unfold doCalls
    rw [chainS, if_pos w1, t1, chainS, if_pos w2, t2, ← hS2, chainS, if_pos w3, t3, chainS, if_pos w4, t4]
    rfl
  refine ⟨hE, hS, ⟨⟨i4.toGood, i4.keys, i4.keys', i4.opn, Nat.le_refl _, i4.re⟩, h.off, h.fuse, rfl, h.holds.write t⟩, h.inv.asked (by omega), ?_, ?_, ?_⟩
  · rw [t1]; exact i1.asked (by omega)
  · rw [t1, t2, ← hS2]; exact i2.asked (by omega)
  · rw [t1, t2, ← hS2, t3]; exact i3.asked (by omega)
end
end Go.Proofs.YtlenmkemjaaaoaaDoor
end

section
/- A table's text is read as that table, in plain words. -/
namespace Go.Proofs.YtlenmkemjaaaoaaDoor

theorem trim_nl (a : Str) : trimS (a ++ [10]) = a := by
  unfold trimS Lib.trimSuffix
  have : Lib.hasSuffix (a ++ [10]) [10] = true := by
    unfold Lib.hasSuffix
    rw [List.isSuffixOf_iff_suffix]
    exact ⟨a, rfl⟩
  rw [if_pos this]
  simp
theorem lineH_plain : ∀ hs : List Str, ∀ c ∈ lineH hs, c ≠ 10
  | [], c, h => by cases h
  | d :: r, c, h => by
    unfold lineH at h
    rw [List.flatMap_cons] at h
    rcases List.mem_append.1 h with h | h
    · rcases List.mem_cons.1 h with rfl | h
      · decide
      · exact (hex_plain d c h).2
    · exact lineH_plain r c h
theorem split_line : ∀ (a : Str) (hs : List Str), (∀ c ∈ a, c ≠ 32) → splitW (a ++ lineH hs) = a :: hs.map hexOf
  | a, [], h => by
    show splitW (a ++ []) = [a]
    rw [List.append_nil]; exact splitW_none h
  | a, d :: r, h => by
    have e : a ++ lineH (d :: r) = a ++ 32 :: (hexOf d ++ lineH r) := by unfold lineH; rw [List.flatMap_cons]; rfl
    rw [e, splitW_at h, split_line (hexOf d) r (fun c hc => (hex_plain d c hc).1)]
    rfl
theorem lineS_body (b : Br) : lineS b = (b.name ++ lineH b.heads) ++ [10] := rfl
theorem line_words {b : Br} (hn : nmOk b.name = true) : splitW (trimS (lineS b)) = b.name :: b.heads.map hexOf := by
  rw [lineS_body, trim_nl]
  exact split_line _ _ (fun c hc => (nmOk_plain hn c hc).1)
theorem lineOk_lineS {b : Br} (hn : nmOk b.name = true) (hh : hOk b.heads) : lineOk (lineS b) = true := by
  unfold lineOk
  rw [line_words hn, List.tail_cons, List.all_map, List.all_eq_true]
  exact fun d hd => (pd_hexOf d (hh d hd)).1
theorem lineBr_lineS {b : Br} (hn : nmOk b.name = true) (hh : hOk b.heads) : lineBr (lineS b) = b := by
  unfold lineBr
  rw [line_words hn, List.tail_cons, List.headD_cons, List.map_map]
  have : b.heads.map (pd ∘ hexOf) = b.heads := by
    conv => rhs; rw [← List.map_id b.heads]
    exact List.map_congr_left (fun d hd => (pd_hexOf d (hh d hd)).2)
  rw [this]
theorem lines_print : ∀ T : Tab, (∀ b ∈ T, nmOk b.name = true) → linesOf (printS T) = T.map lineS
  | [], _ => rfl
  | b :: r, h => by
    have e : printS (b :: r) = (b.name ++ lineH b.heads) ++ 10 :: printS r := by
      unfold printS; rw [List.flatMap_cons, lineS_body, List.append_assoc]; rfl
    rw [e, linesOf_at (fun c hc => ?_), lines_print r (fun x hx => h x (by simp [hx]))]
    · rfl
    · rcases List.mem_append.1 hc with hc | hc
      · exact (nmOk_plain (h b (by simp)) c hc).2
      · exact lineH_plain _ c hc
theorem parse_print {T : Tab} (hm : mayE T = 0) (hh : tOk T) : parseOk (printS T) = true ∧ looseT (printS T) = T := by
  have hb := ((mayE_zero T).1 hm).2.1
  have hn : ∀ b ∈ T, nmOk b.name = true := fun b hbm => (hb b hbm).1
  have hl := lines_print T hn
  have hT : looseT (printS T) = T := by
    unfold looseT
    rw [hl, List.map_map]
    conv => rhs; rw [← List.map_id T]
    exact List.map_congr_left (fun b hbm => lineBr_lineS (hn b hbm) (hh b hbm))
  refine ⟨?_, hT⟩
  unfold parseOk
  rw [hT, hl, hm]
  have : (T.map lineS).all lineOk = true := by
    rw [List.all_map, List.all_eq_true]
    exact fun b hbm => lineOk_lineS (hn b hbm) (hh b hbm)
  rw [this]
  simp
end Go.Proofs.YtlenmkemjaaaoaaDoor
end

section
/- A disk and its names in the middle of a law. -/
namespace Go.Proofs.YtlenmkemjaaaoaaDoor
open Go.RowKit

/-- Blocks of other kinds than the disk's and the names' are as they were. -/
def Keeps (W W' : World) : Prop := ∀ k t cs, Blk W k t cs → t ≠ 69 → t ≠ 75 → t ≠ 120 → Blk W' k t cs
theorem Keeps.below {W W' : World} (h : Below W.heap.size W W') : Keeps W W' := fun _ _ _ hB _ _ _ => hB.below h hB.lt
theorem Keeps.trans {A B C : World} (h : Keeps A B) (h' : Keeps B C) : Keeps A C := fun k t cs hB a b c => h' k t cs (h k t cs hB a b c) a b c
theorem Keeps.touch {W W' : World} {g bn bs : Nat} {pv : Value} {S : DS} (hD : DiskAt W g bn bs pv S) (ht : Touch (foot g bn bs pv) W W') : Keeps W W' := fun _ _ _ hB _ b c => hB.touch ht (hD.tag hB b c)
/-- A disk of the law's own. -/
structure Ses (w0 : World) (base g : Nat) (S : DS) (W : World) : Prop where
  bel : Below base w0 W
  size : base ≤ W.heap.size
  disk : ∃ L, DiskIs W L g S ∧ ∀ i ∈ L, base ≤ i
/-- .. and names that lie on it. -/
structure Ref (w0 : World) (base rb g : Nat) (v : Value) (S : DS) (T : Tab) (W : World) : Prop extends Ses w0 base g S W where
  low : base ≤ rb
  ref : Blk W rb 69 [.pointer (some ⟨g, 0, none⟩), v, .bool false]
  own : OwnTab W base v T
/-- The text that is the table's. -/
def TextOf (X : Option Str) (T : Tab) : Prop := (X = none ∧ T = []) ∨ (X = some (printS T) ∧ mayE T = 0 ∧ tOk T)
theorem Ses.below {w0 : World} {base g : Nat} {S : DS} {W W' : World} (h : Ses w0 base g S W) (hb : Below W.heap.size W W') : Ses w0 base g S W' := by
  obtain ⟨L, hD, hL⟩ := h.disk
  exact ⟨h.bel.trans (hb.mono h.size), Nat.le_trans h.size hb.size, L, hD.below hb, hL⟩
theorem Ref.below {w0 : World} {base rb g : Nat} {v : Value} {S : DS} {T : Tab} {W W' : World} (h : Ref w0 base rb g v S T W) (hb : Below W.heap.size W W') : Ref w0 base rb g v S T W' :=
  ⟨h.toSes.below hb, h.low, h.ref.below hb h.ref.lt, h.own.keepB hb⟩
theorem Ses.turned {w0 : World} {base g : Nat} {S S' : DS} {W W' : World} {L : List Nat} (h : Ses w0 base g S W) (hL : ∀ i ∈ L, base ≤ i) (ht : Turned W L g S' W') : Ses w0 base g S' W' := by
  obtain ⟨ht, L', hD, hL'⟩ := ht
  refine ⟨h.bel.trans (ht.below h.size hL), Nat.le_trans h.size ht.size, L', hD, fun i hi => ?_⟩
  rcases hL' i hi with h1 | h1
  · exact hL i h1
  · exact Nat.le_trans h.size h1
set_option maxRecDepth 100000 in
set_option maxHeartbeats 4000000 in
theorem fresh_any (w : World) : Calls Tryd.prog 25 #[] w fun e w' => ∃ g, e = .returned (.pointer (some ⟨g, 0, none⟩)) ∧ Ses w w.heap.size g (DS.new 1048576) w' := by
  have hn := Lib.hid (new_any 1048576 w (by omega) (by omega))
  go_enter Tryd.func25, Tryd.ntmps25
  go_wp2_with (first
    | (go_at_call 32; (with_reducible refine hn.out.mono ?_); rintro e w2 ⟨g, L, rfl, hD, hL, hb⟩))
  go_ret
  exact ⟨g, rfl, hb, hb.size, L, hD, hL⟩
theorem print_small {T : Tab} (hm : mayE T = 0) (hh : tOk T) : (printS T).length ≤ 65536 := by
  have h1 := (mayE_zero T).1 hm
  have := printS_len h1.2.1 hh
  have := h1.1
  omega
theorem TextOf.len {X : Option Str} {T : Tab} (h : TextOf X T) : (X.getD []).length ≤ 65536 := by
  rcases h with ⟨rfl, rfl⟩ | ⟨rfl, hm, hh⟩
  · simp
  · exact print_small hm hh
/-- Names are found again. -/
theorem open_live {w0 : World} {base g : Nat} {S : DS} {W : World} {X : Option Str} {T : Tab} (h : Ses w0 base g S W) (hS : Live S X) (hX : TextOf X T) :
    Calls Tryd.prog 26 #[.pointer (some ⟨g, 0, none⟩)] W fun e W' => ∃ rb v, e = .returned (.tuple #[.pointer (some ⟨rb, 0, none⟩), .int .i64 0]) ∧ Ref w0 base rb g v S T W' ∧ Keeps W W' := by
  obtain ⟨L, ⟨bn, bs, pv, hD, rfl⟩, hL⟩ := h.disk
  have hE : openE S = 0 ∧ openT S = T := by
    rcases hX with ⟨rfl, rfl⟩ | ⟨rfl, hm, hh⟩
    · exact hS.openE_none
    · obtain ⟨h1, h2⟩ := parse_print hm hh
      obtain ⟨h3, h4⟩ := hS.openE_some h1
      exact ⟨h3, h4.trans h2⟩
  have hlen := hX.len
  refine (open_any g bn bs pv S W hD (hS.inv.asked (by omega)) ?_).mono ?_
  · rw [hS.openS, hS.readT]; omega
  · rintro e W' ⟨ht, hR⟩
    rw [hE.1, if_pos rfl, hE.2] at hR
    rw [hS.openS] at ht
    obtain ⟨rb, tv, he, hlo, hB, hO⟩ := hR
    exact ⟨rb, tv, he, ⟨h.turned hL ht, Nat.le_trans h.size hlo, hB, hO.lower h.size⟩, Keeps.touch hD ht.1⟩
end Go.Proofs.YtlenmkemjaaaoaaDoor
end

section
/- What apply keeps, in plain words. -/
namespace Go.Proofs.YtlenmkemjaaaoaaDoor

structure Fine (T : Tab) : Prop where
  sorted : sorted T
  ok : ∀ b ∈ T, bOk b
  dig : tOk T
theorem Fine.may {T : Tab} (h : Fine T) (hl : T.length ≤ 32) : mayE T = 0 := (mayE_zero T).2 ⟨hl, h.ok, h.sorted⟩
theorem Fine.of {T : Tab} (hm : mayE T = 0) (hh : tOk T) : Fine T := ⟨((mayE_zero T).1 hm).2.2, ((mayE_zero T).1 hm).2.1, hh⟩
theorem headsE_len {l : List Str} (h : headsE l = 0) : l.length ≤ 8 := by
  unfold headsE at h
  split at h
  · cases h
  · omega
theorem nmOk_len {s : Str} (h : nmOk s = true) : s.length ≤ 24 := by
  simp only [nmOk, Bool.and_eq_true, decide_eq_true_eq] at h
  exact h.2
theorem tfit_of {T : Tab} (hm : mayE T = 0) (hh : tOk T) : TFit T := by
  have h := (mayE_zero T).1 hm
  refine ⟨by have := h.1; omega, fun b hb => ?_⟩
  have hb2 := h.2.1 b hb
  have h1 := nmOk_len hb2.1
  have h2 := headsE_len hb2.2.2
  exact ⟨by omega, ⟨by omega, hh b hb⟩⟩
theorem wrongs_ok {l : Tab} : ∀ (C ahead : List Chg), wrongsE l ahead C = 0 → ∀ c ∈ C, nmOk c.name = true ∧ headsE c.new = 0
  | [], _, _, c, h => by cases h
  | x :: r, ahead, h, c, hc => by
    unfold wrongsE at h
    by_cases hx : wrongE l ahead x = 0
    · rw [if_pos hx] at h
      rcases List.mem_cons.1 hc with rfl | hc
      · unfold wrongE at hx
        by_cases hn : nmOk c.name = true
        · rw [if_pos hn] at hx
          by_cases ha : (ahead.any fun x => x.name == c.name) = true
          · rw [if_pos ha] at hx; cases hx
          · rw [if_neg ha] at hx
            by_cases hh : headsE c.new = 0
            · exact ⟨hn, hh⟩
            · rw [if_neg hh] at hx; exact absurd hx hh
        · rw [if_neg hn] at hx; cases hx
      · exact wrongs_ok r _ h c hc
    · rw [if_neg hx] at h; exact absurd h hx
theorem Fine.step {T : Tab} (h : Fine T) {c : Chg} (hn : nmOk c.name = true) (hh : headsE c.new = 0) (hd : hOk c.new) : Fine (stepT T c) :=
  ⟨sorted_step h.sorted c, fun b hb => by
    rcases step_mem hb with hb | ⟨rfl, hne⟩
    · exact h.ok b hb
    · exact ⟨hn, hne, hh⟩, fun b hb => by
    rcases step_mem hb with hb | ⟨rfl, _⟩
    · exact h.dig b hb
    · exact hd⟩
theorem Fine.steps : ∀ (C : List Chg) {T : Tab}, Fine T → (∀ c ∈ C, nmOk c.name = true ∧ headsE c.new = 0) → cOk C → Fine (C.foldl stepT T)
  | [], _, h, _, _ => h
  | c :: r, _, h, hc, hd => Fine.steps r (h.step (hc c (by simp)).1 (hc c (by simp)).2 (hd c (by simp)).2) (fun x hx => hc x (by simp [hx])) (fun x hx => hd x (by simp [hx]))
theorem applyE_may {T : Tab} {C : List Chg} (h : applyE T C = 0) : mayE T = 0 := by
  unfold applyE at h
  by_cases hm : mayE T = 0
  · exact hm
  · rw [if_neg hm] at h; exact absurd h hm
/-- What is applied may be. -/
theorem apply_may {T : Tab} {C : List Chg} (h : applyE T C = 0) (hh : tOk T) (hd : cOk C) : mayE (applyT T C) = 0 ∧ tOk (applyT T C) := by
  have hm := applyE_may h
  have hT : applyT T C = putsT T C := by unfold applyT; rw [if_pos h]
  unfold applyE at h
  rw [if_pos hm] at h
  by_cases h1 : 32 < C.length
  · rw [if_pos h1] at h; cases h
  rw [if_neg h1] at h
  by_cases h2 : wrongsE T [] C = 0
  · rw [if_pos h2] at h
    by_cases h3 : 32 < (putsT T C).length
    · rw [if_pos h3] at h; cases h
    have hF := Fine.of hm hh
    have := hF.steps C (wrongs_ok C [] h2) hd
    rw [foldl_step C T hF.sorted] at this
    rw [hT]
    exact ⟨this.may (by omega), this.dig⟩
  · rw [if_neg h2] at h; exact absurd h h2
end Go.Proofs.YtlenmkemjaaaoaaDoor
end

section
/- Changes, and a crash, in the middle of a law. -/
namespace Go.Proofs.YtlenmkemjaaaoaaDoor
open Go.RowKit

theorem TextOf.tok {X : Option Str} {T : Tab} (h : TextOf X T) : mayE T = 0 ∧ tOk T := by
  rcases h with ⟨_, rfl⟩ | ⟨_, hm, hh⟩
  · exact ⟨rfl, fun b hb => by cases hb⟩
  · exact ⟨hm, hh⟩
theorem Ref.turned {w0 : World} {base rb g : Nat} {v : Value} {S S' : DS} {T : Tab} {W W' : World} {bn bs : Nat} {pv : Value} (h : Ref w0 base rb g v S T W) (hD : DiskAt W g bn bs pv S) (hL : ∀ i ∈ foot g bn bs pv, base ≤ i) (ht : Turned W (foot g bn bs pv) g S' W') : Ref w0 base rb g v S' T W' := by
  have hf := foot_tags hD
  refine ⟨h.toSes.turned hL ht, h.low, h.ref.touch ht.1 (hD.tag h.ref (by decide) (by decide)), h.own.touch ht.1 (fun i hi t cs hB => ?_)⟩
  rcases hf i hi t cs hB with rfl | rfl <;> exact ⟨by decide, by decide⟩
theorem Live.crash_eq {S : DS} {X : Option Str} (h : Live S X) (l : List Int) : S.crash l = S := by
  have e : S.crash l = { S with now := S.sure, sure := S.sure, pend := [], fuse := -1, off := false } := by
    unfold DS.crash; rw [h.pend]; rfl
  rw [e]
  obtain ⟨a, b, c, d, f, g⟩ := S
  have h1 := h.off; have h2 := h.fuse; have h3 := h.sure; have h4 := h.pend
  simp only at h1 h2 h3 h4
  subst h1; subst h2; subst h3; subst h4
  rfl
/-- A crash where all is sure turns nothing. -/
theorem crash_live {w0 : World} {base rb g : Nat} {v : Value} {S : DS} {T : Tab} {W : World} {X : Option Str} (h : Ref w0 base rb g v S T W) (hS : Live S X) (l : List Int) (A : Option Addr) (c : Nat)
    (hl : ∀ bn bs pv, DiskAt W g bn bs pv S → Nums W (fun b => b ∉ foot g bn bs pv ∧ b < W.heap.size) A l) (hlb : ∀ x ∈ l, x ≤ 9223372036854775807) (hll : l.length ≤ 140737488355328) :
    Calls Tryd.prog 28 #[.pointer (some ⟨g, 0, none⟩), .slice A l.length c] W fun e W' => e = .returned (.tuple #[]) ∧ Ref w0 base rb g v S T W' ∧ Keeps W W' := by
  obtain ⟨L, ⟨bn, bs, pv, hD, rfl⟩, hL⟩ := h.disk
  have hp : S.pend.length = 0 := by rw [hS.pend]; rfl
  have h6 := hS.inv.few'
  refine (crash_any g bn bs pv S l A c W hD hS.inv.toFit (by omega) (hl bn bs pv hD) hlb hll).mono ?_
  rintro e W' ⟨he, ht⟩
  rw [hS.crash_eq] at ht
  exact ⟨he, h.turned hD hL ht, Keeps.touch hD ht.1⟩
def DidTo (w0 : World) (base rb g : Nat) (v : Value) (S : DS) (T : Tab) (C : List Chg) (W : World) (e : Ending) (W' : World) : Prop :=
  e = .returned (.int .i64 (applyE T C)) ∧ Keeps W W' ∧ if applyE T C = 0 then ∃ v' S' X', Ref w0 base rb g v' S' (applyT T C) W' ∧ Live S' X' ∧ TextOf X' (applyT T C) ∧ S'.room = S.room else Ref w0 base rb g v S T W'
theorem do_live {w0 : World} {base rb g : Nat} {v u : Value} {S : DS} {T : Tab} {W : World} {X : Option Str} {C : List Chg} {ok' : Nat → Prop} (h : Ref w0 base rb g v S T W) (hS : Live S X) (hX : TextOf X T) (hroom : 131072 ≤ S.room)
    (h' : ChsIs W ok' u C) (hc : CFit C) : Calls Tryd.prog 27 #[.pointer (some ⟨rb, 0, none⟩), u] W (DidTo w0 base rb g v S T C W) := by
  obtain ⟨L, ⟨bn, bs, pv, hD, rfl⟩, hL⟩ := h.disk
  obtain ⟨hm, hh⟩ := hX.tok
  have hf := tfit_of hm hh
  have hd : cOk C := fun c hcm => ⟨(hc.ok c hcm).old.ok, (hc.ok c hcm).new.ok⟩
  by_cases hE : applyE T C ≠ 0 ∨ C = []
  · refine (do_early rb g v u T C _ ok' W h.ref h.own.tab hf h' hc hE).mono ?_
    rintro e W' ⟨he, hb⟩
    refine ⟨he, Keeps.below hb, ?_⟩
    have hR := h.below hb
    by_cases h0 : applyE T C = 0
    · rw [if_pos h0]
      have hC : C = [] := hE.resolve_left (fun hn => hn h0)
      have hT : applyT T C = T := by unfold applyT; rw [if_pos h0, hC]; rfl
      rw [hT]
      exact ⟨v, S, X, hR, hS, hX, rfl⟩
    · rw [if_neg h0]; exact hR
  · have hE0 : applyE T C = 0 := Decidable.byContradiction (fun hn => hE (.inl hn))
    have hC : C ≠ [] := fun hn => hE (.inr hn)
    obtain ⟨hm2, hh2⟩ := apply_may hE0 hh hd
    have hl1 := print_small hm2 hh2
    have hl2 := hX.len
    have hP : printT (applyT T C) = printS (applyT T C) := by unfold printT; rw [if_pos hm2]
    have hch : ChainOk S (printT (applyT T C)) := hS.chain (by rw [hP]; omega)
    refine (do_late rb g bn bs pv v u S T C _ ok' W h.ref h.own.tab hf h' hc hE0 hC (tfit_of hm2 hh2) (by rw [hP]; omega) hD hch.a0 hch.a1 hch.a2 hch.a3).mono ?_
    rintro e W' ⟨he, ht, ⟨L', hD', hL'⟩, nv, hB, hO⟩
    rw [hch.e] at he hB hO
    rw [hch.s] at hD'
    rw [if_pos rfl] at hO
    refine ⟨by rw [he, hE0], fun k t cs hBk a b c => hBk.touch ht (fun hm => ?_), ?_⟩
    · rcases List.mem_cons.1 hm with rfl | hm
      · exact a (hBk.unique h.ref)
      · exact hD.tag hBk b c hm
    rw [if_pos hE0]
    have hb : ∀ i ∈ rb :: foot g bn bs pv, base ≤ i := fun i hi => by
      rcases List.mem_cons.1 hi with rfl | hi
      · exact h.low
      · exact hL i hi
    refine ⟨nv, Live.after S (printT (applyT T C)), some (printT (applyT T C)), ⟨⟨h.bel.trans (ht.below h.size hb), Nat.le_trans h.size ht.size, L', hD', fun i hi => ?_⟩, h.low, hB, hO.lower h.size⟩, hch.live, .inr ⟨by rw [hP], hm2, hh2⟩, rfl⟩
    rcases hL' i hi with h1 | h1
    · exact hL i h1
    · exact Nat.le_trans h.size h1
end Go.Proofs.YtlenmkemjaaaoaaDoor
end
