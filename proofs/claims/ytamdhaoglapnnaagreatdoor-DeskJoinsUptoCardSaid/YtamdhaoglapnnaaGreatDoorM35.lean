/- What writing calls keep, in plain words: for a disk of any user's. -/
import Derived.Test.YtamdhaoglapnnaaGreatDoorM13
import Derived.Test.YtamdhaoglapnnaaGreatDoorM10
import Derived.Test.YtamdhaoglapnnaaGreatDoorM05
import Derived.Test.YtamdhaoglapnnaaGreatDoorM03
import Derived.Test.YtamdhaoglapnnaaGreatDoorM01
import Derived.Test.YtamdhaoglapnnaaGreatDoorM04
section
namespace Go.Proofs.YtamdhaoglapnnaaGreatDoor
open Go.Maps

def KeysOk (D : DM) : Prop := ∀ k, fHas D k = true → nameB k = true
def replay (os : List DOp) (D : DM) : DM := os.foldl (fun D o => o.act 1 D) D
def DOp.named : DOp → Prop
  | .write s _ => nameB s = true
  | .remove _ => True
  | .rename _ t => nameB t = true
/-- What a disk is at any time before a crash. -/
structure Inv (S : DS) (n : Nat) : Prop extends S.Good where
  keys : KeysOk S.now
  keys' : KeysOk S.sure
  opn : ∀ o ∈ S.pend, o.named
  len : S.pend.length ≤ n
  re : replay S.pend S.sure = S.now
theorem KeysOk.put {D : DM} (h : KeysOk D) {k t : List UInt8} (hk : nameB k = true) : KeysOk (fPut D k t) := fun q hq => by
  by_cases e : q = k
  · rw [e]; exact hk
  · rw [fHas_put_other e] at hq; exact h q hq
theorem KeysOk.del {D : DM} (h : KeysOk D) {k : List UInt8} : KeysOk (fDel D k) := fun q hq => by
  by_cases e : q = k
  · rw [e, fHas_del_same] at hq; cases hq
  · rw [fHas_del_other e] at hq; exact h q hq
theorem KeysOk.act {D : DM} (h : KeysOk D) {o : DOp} (ho : o.named) (k : Int) : KeysOk (o.act k D) := by
  cases o with
  | write s t => exact h.put ho
  | remove s => exact h.del
  | rename s t =>
    simp only [DOp.act]
    split
    · exact (h.del).put ho
    · exact h
theorem Fit.tick {S : DS} (h : S.Fit) : S.tick.Fit := by
  refine ⟨by rw [tick_now]; exact h.now, by rw [tick_sure]; exact h.sure, by rw [tick_pend]; exact h.ops, by rw [tick_room]; exact h.room0, by rw [tick_room]; exact h.room1, ?_, ?_⟩
  · unfold DS.tick; split
    · exact h.fuse0
    · show -1 ≤ max (S.fuse - 1) (-1); omega
  · unfold DS.tick; split
    · exact h.fuse1
    · show max (S.fuse - 1) (-1) ≤ 1000000; have := h.fuse1; omega
theorem Inv.tick {S : DS} {n : Nat} (h : Inv S n) : Inv S.tick n := by
  refine ⟨⟨Fit.tick h.toFit, ?_, ?_, ?_⟩, ?_, ?_, ?_, ?_, ?_⟩
  · rw [tick_now, tick_room]; exact h.sum
  · rw [tick_now]; exact h.few
  · rw [tick_sure]; exact h.few'
  · rw [tick_now]; exact h.keys
  · rw [tick_sure]; exact h.keys'
  · rw [tick_pend]; exact h.opn
  · rw [tick_pend]; exact h.len
  · rw [tick_pend, tick_sure, tick_now]; exact h.re
theorem Inv.mono {S : DS} {n m : Nat} (h : Inv S n) (hm : n ≤ m) : Inv S m := ⟨h.toGood, h.keys, h.keys', h.opn, Nat.le_trans h.len hm, h.re⟩
theorem Inv.does {S : DS} {n : Nat} (h : Inv S n) (o : DOp) (ho : o.ok) (hn : o.named) (hs : (fSum (o.act 1 S.now) : Int) ≤ S.room) (hf : fLen (o.act 1 S.now) ≤ 600) : Inv (S.does o) (n + 1) := by
  refine ⟨⟨⟨o.act_str h.now 1, h.sure, ?_, h.room0, h.room1, h.fuse0, h.fuse1⟩, hs, hf, h.few'⟩, h.keys.act hn 1, h.keys', ?_, ?_, ?_⟩
  · intro p hp
    rcases List.mem_append.1 hp with hp | hp
    · exact h.ops p hp
    · rw [List.mem_singleton.1 hp]; exact ho
  · intro p hp
    rcases List.mem_append.1 hp with hp | hp
    · exact h.opn p hp
    · rw [List.mem_singleton.1 hp]; exact hn
  · show (S.pend ++ [o]).length ≤ n + 1
    have := h.len
    simp; omega
  · show replay (S.pend ++ [o]) S.sure = o.act 1 S.now
    have := h.re
    unfold replay at this ⊢
    rw [List.foldl_append, this]
    rfl
theorem nameB_80 {s : List UInt8} (h : nameB s = true) : s.length ≤ 80 := by
  simp [nameB] at h; exact h.2
theorem Inv.done {S : DS} {n : Nat} (h : Inv S n) (c : Call) (hc : c.err S = 0) : Inv (c.done S) (n + 1) := by
  cases c with
  | write s t =>
    simp only [Call.err] at hc
    by_cases hs : nameB s = true
    · rw [if_pos hs] at hc
      by_cases hf : fullB S s t = true
      · rw [if_pos hf] at hc; cases hc
      · have hff : fullB S s t = false := by simpa using hf
        unfold fullB at hff
        rw [Bool.or_eq_false_iff] at hff
        obtain ⟨f1, f2⟩ := hff
        have f1' : ¬ (S.room - (t.length : Int) < (fSum S.now : Int) - ((fS S.now s).length : Int)) := by simpa using f1
        have f2' : ¬ (600 < fLen S.now + (if fHas S.now s then 0 else 1)) := of_decide_eq_false f2
        have hcut : cutT t 1 = t := by simp [cutT]
        have hx := fSum_put (k := s) (t := t) h.now
        have hd := fSum_del (k := s) h.now
        have hr := h.room1
        refine h.does _ ⟨nameB_80 hs, by omega⟩ hs ?_ ?_
        · show (fSum (fPut S.now s (cutT t 1)) : Int) ≤ S.room
          rw [hcut]; omega
        · show fLen (fPut S.now s (cutT t 1)) ≤ 600
          rw [fLen_put h.now]
          split <;> rename_i hh
          · exact h.few
          · rw [if_neg hh] at f2'; omega
    · rw [if_neg hs] at hc; cases hc
  | remove s =>
    simp only [Call.err] at hc
    by_cases hs : nameB s = true
    · have hd := fSum_del (k := s) h.now
      have hsum := h.sum
      refine h.does _ (nameB_80 hs) trivial ?_ ?_
      · show (fSum (fDel S.now s) : Int) ≤ S.room
        omega
      · show fLen (fDel S.now s) ≤ 600
        exact Nat.le_trans (fLen_del_le h.now) h.few
    · rw [if_neg hs] at hc; cases hc
  | rename s t =>
    simp only [Call.err] at hc
    by_cases hs : (nameB s && nameB t) = true
    · rw [if_pos hs] at hc
      by_cases hh : fHas S.now s = true
      · rw [Bool.and_eq_true] at hs
        have hd := fSum_del (k := s) h.now
        have hp := fSum_put (k := t) (t := fS S.now s) (h.now.del s)
        have hsum := h.sum
        have ha : (DOp.rename s t).act 1 S.now = fPut (fDel S.now s) t (fS S.now s) := by simp [DOp.act, hh]
        refine h.does _ ⟨nameB_80 hs.1, nameB_80 hs.2⟩ hs.2 ?_ ?_
        · rw [ha]; omega
        · rw [ha]; exact Nat.le_trans (rename_len h.now s t hh) h.few
      · rw [if_neg hh] at hc; cases hc
    · rw [if_neg hs] at hc; cases hc
  | sync =>
    refine ⟨⟨⟨h.now, h.now, by simp [Call.done], h.room0, h.room1, h.fuse0, h.fuse1⟩, h.sum, h.few, h.few⟩, h.keys, h.keys, by simp [Call.done], by simp [Call.done], rfl⟩
theorem Inv.turn {S : DS} {n : Nat} (h : Inv S n) (c : Call) : Inv (c.turn S) (n + 1) := by
  unfold Call.turn
  split
  · exact h.tick.mono (by omega)
  · split
    · rename_i h2
      exact h.tick.done c h2
    · exact h.tick.mono (by omega)
theorem Inv.new {room : Int} (h0 : 0 ≤ room) (h1 : room ≤ 16777216) : Inv (DS.new room) 0 := by
  refine ⟨⟨⟨StrMap.nil, StrMap.nil, by simp [DS.new], h0, h1, by simp [DS.new], by simp [DS.new]⟩, ?_, ?_, ?_⟩, ?_, ?_, by simp [DS.new], by simp [DS.new], rfl⟩
  · show ((fSum fNil : Nat) : Int) ≤ room
    simp [fSum, fNil, fEs]; exact h0
  · show fLen fNil ≤ 600
    simp [fLen, fNil, Maps.size]
  · show fLen fNil ≤ 600
    simp [fLen, fNil, Maps.size]
  · intro k hk
    have : fHas fNil k = true := hk
    simp [fHas, fNil, Maps.has] at this
  · intro k hk
    have : fHas fNil k = true := hk
    simp [fHas, fNil, Maps.has] at this
theorem Inv.asked {S : DS} {n : Nat} (h : Inv S n) (hn : n < 4398046511104) : Asked S := ⟨h.toGood, Nat.lt_of_le_of_lt h.len hn⟩
/-- Without a fuse the power stays. -/
theorem turn_live {S : DS} (c : Call) (ho : S.off = false) (hf : S.fuse = -1) : (c.turn S).off = false ∧ (c.turn S).fuse = -1 := by
  have ht : S.tick = { S with off := false, fuse := -1 } := by simp [DS.tick, ho, hf]; rfl
  have hd : ∀ c : Call, ∀ T : DS, (c.done T).off = T.off ∧ (c.done T).fuse = T.fuse := fun c T => by cases c <;> exact ⟨rfl, rfl⟩
  unfold Call.turn
  rw [ht]
  split
  · rename_i h; cases h
  · split
    · exact hd c _
    · exact ⟨rfl, rfl⟩
theorem turn_room (c : Call) (S : DS) : (c.turn S).room = S.room := by
  have hd : ∀ T : DS, (c.done T).room = T.room := fun T => by cases c <;> rfl
  unfold Call.turn
  split
  · exact tick_room S
  · split
    · rw [hd, tick_room]
    · exact tick_room S
theorem crashTo_nil : ∀ (os : List DOp) (D : DM), crashTo os [] D = D
  | [], _ => rfl
  | o :: os, D => by simp [crashTo, crashTo_nil os D]
theorem crashTo_ones : ∀ (os : List DOp) (n : Nat) (D : DM), os.length ≤ n → crashTo os (List.replicate n 1) D = replay os D
  | [], _, _, _ => rfl
  | o :: os, 0, _, h => by simp at h
  | o :: os, n + 1, D, h => by
    have ih := crashTo_ones os n (o.act 1 D) (by simp at h; omega)
    have e : crashTo (o :: os) (List.replicate (n + 1) 1) D = crashTo os (List.replicate n 1) (if (0 : Int) < 1 then o.act 1 D else D) := rfl
    rw [e, if_pos (by omega), ih]
    rfl
end Go.Proofs.YtamdhaoglapnnaaGreatDoor
end
section
/- Joined: RjDo, RjSe, RjNb. -/
section
/- Joined: RfOp, RfDo. -/
section
/- The walk of refs.Open. -/
namespace Go.Proofs.YtamdhaoglapnnaaGreatDoor
open Go.RowKit

def nextN : Str := [114, 101, 102, 115, 46, 110, 101, 119]
def fileN : Str := [114, 101, 102, 115]
/-- The disk behind Open. -/
def openS (S : DS) : DS := (Call.remove nextN).turn S
def openE (S : DS) : Int :=
  if (Call.remove nextN).errno S = 15 then 15 else if (openS S).readE fileN = 5 then 0 else if (openS S).readE fileN = 0 then (if parseOk ((openS S).readT fileN) = true then 0 else 7) else (openS S).readE fileN
def openT (S : DS) : Tab := if (openS S).readE fileN = 0 then looseT ((openS S).readT fileN) else []
def OpenTo (w : World) (L : List Nat) (g : Nat) (S : DS) (e : Ending) (w' : World) : Prop :=
  Turned w L g (openS S) w' ∧ if openE S = 0 then ∃ rb tv, e = .returned (.tuple #[.pointer (some ⟨rb, 0, none⟩), .int .i64 0]) ∧ w.heap.size ≤ rb ∧ Blk w' rb 147 [.pointer (some ⟨g, 0, none⟩), tv, .bool false] ∧ OwnTab w' w.heap.size tv (openT S) else e = .returned (.tuple #[.pointer none, .int .i64 (openE S)])
theorem turned_below {w w2 w4 : World} {L : List Nat} {g bn bs : Nat} {v : Value} {S : DS} (ht : Touch L w w2) (hD : DiskAt w2 g bn bs v S) (hL : ∀ i ∈ foot g bn bs v, i ∈ L ∨ w.heap.size ≤ i) (hb : Below w2.heap.size w2 w4) : Turned w L g S w4 :=
  ⟨ht.trans (L' := []) (Touch.ofBelow hb) (by simp), _, ⟨bn, bs, v, hD.below hb, rfl⟩, hL⟩
theorem remove_cases (S : DS) : (Call.remove nextN).errno S = 0 ∨ (Call.remove nextN).errno S = 5 ∨ (Call.remove nextN).errno S = 15 := by
  have e : (Call.remove nextN).err S.tick = if fHas S.tick.now nextN = true then 0 else 5 := by
    show (if nameB nextN = true then (if fHas S.tick.now nextN = true then (0 : Int) else 5) else 11) = _
    rw [if_pos (by decide)]
  unfold Call.errno
  rw [e]
  split
  · exact .inr (.inr rfl)
  · split
    · exact .inl rfl
    · exact .inr (.inl rfl)
theorem readE_cases (S : DS) : S.readE fileN = 0 ∨ S.readE fileN = 5 ∨ S.readE fileN = 15 := by
  unfold DS.readE
  split
  · exact .inr (.inr rfl)
  · have : nameB fileN = true := by decide
    simp only [this, if_true]
    split
    · exact .inl rfl
    · exact .inr (.inl rfl)
set_option maxRecDepth 100000 in
set_option maxHeartbeats 8000000 in
theorem open_any (g bn bs : Nat) (v : Value) (S : DS) (w : World) (h : DiskAt w g bn bs v S) (hA : Asked S) (hlen : ((openS S).readT fileN).length ≤ 1073741824) :
    Calls Tryz.prog 55 #[.pointer (some ⟨g, 0, none⟩)] w (OpenTo w (foot g bn bs v) g S) := by
  have hrm : Hid (Calls Tryz.prog 56 #[.pointer (some ⟨g, 0, none⟩), .string ⟨#[114, 101, 102, 115, 46, 110, 101, 119]⟩] w fun e w' => e = .returned (.int .i64 ((Call.remove nextN).errno S)) ∧ Turned w (foot g bn bs v) g (openS S) w') := Lib.hid (remove_any g bn bs v S nextN w h hA (by decide))
  obtain ⟨e1, he1⟩ : ∃ e1, e1 = (Call.remove nextN).errno S := ⟨_, rfl⟩
  obtain ⟨e2, he2⟩ : ∃ e2, e2 = (openS S).readE fileN := ⟨_, rfl⟩
  obtain ⟨t, ht⟩ : ∃ t, t = (openS S).readT fileN := ⟨_, rfl⟩
  have c1 := remove_cases S
  have c2 := readE_cases (openS S)
  rw [← he1] at hrm c1
  rw [← he2] at c2
  rw [← ht] at hlen
  have hrd : Hid (∀ bn2 bs2 v2 w2, DiskAt w2 g bn2 bs2 v2 (openS S) → Calls Tryz.prog 85 #[.pointer (some ⟨g, 0, none⟩), .string ⟨#[114, 101, 102, 115]⟩] w2 fun e w' => e = .returned (.tuple #[.string ⟨t.toArray⟩, .int .i64 e2]) ∧ w2 = w') := Lib.hid (fun bn2 bs2 v2 w2 h2 => by
    rw [ht, he2]; exact read_any g bn2 bs2 v2 (openS S) fileN w2 h2 (by decide))
  have hpa : Hid (∀ w, Calls Tryz.prog 86 #[.string ⟨t.toArray⟩] w (ParsedTo w t)) := Lib.hid (fun w => fparse_any t w hlen)
  have hE : Hid (openE S = if e1 = 15 then 15 else if e2 = 5 then 0 else if e2 = 0 then (if parseOk t = true then 0 else 7) else e2) := Lib.hid (by unfold openE; rw [← he1, ← he2, ← ht])
  have hT : Hid (openT S = if e2 = 0 then looseT t else []) := Lib.hid (by unfold openT; rw [← he2, ← ht])
  clear he1 he2 ht h hA hlen
  rcases c1 with rfl | rfl | rfl
  case inr.inr =>
    go_enter Tryz.func55, Tryz.ntmps55
    go_wp2_with (first
      | (go_at_call 56; (with_reducible refine hrm.out.mono ?_); rintro e w2 ⟨rfl, ht⟩))
    refine bodyPost_ret (results_tmp2 rfl _ _ _) rfl ?_
    refine ⟨ht, ?_⟩
    rw [hE.out]; rfl
  all_goals
    rcases c2 with rfl | rfl | rfl
    case inr.inr =>
      go_enter Tryz.func55, Tryz.ntmps55
      go_wp2_with (first
        | (go_at_call 56; (with_reducible refine hrm.out.mono ?_); rintro e w2 ⟨rfl, ht, L', ⟨bn2, bs2, v2, hD2, rfl⟩, hL⟩)
        | (go_at_call 85; (with_reducible refine (hrd.out _ _ _ _ hD2).mono ?_); rintro e w3 ⟨rfl, rfl⟩))
      refine bodyPost_ret (results_tmp2 rfl _ _ _) rfl ?_
      refine ⟨turned_below ht hD2 hL (Below.refl _ _), ?_⟩
      rw [hE.out]; rfl
    case inr.inl =>
      go_enter Tryz.func55, Tryz.ntmps55
      go_wp2_with (first
        | (go_at_call 56; (with_reducible refine hrm.out.mono ?_); rintro e w2 ⟨rfl, ht, L', ⟨bn2, bs2, v2, hD2, rfl⟩, hL⟩)
        | (go_at_call 85; (with_reducible refine (hrd.out _ _ _ _ hD2).mono ?_); rintro e w3 ⟨rfl, rfl⟩))
      refine bodyPost_ret (results_tmp2 rfl _ _ _) rfl ?_
      refine ⟨turned_below ht hD2 hL ((Below.refl _ _).alloc (Nat.le_refl _) _), ?_⟩
      rw [hE.out, hT.out]
      exact ⟨_, _, rfl, ht.size, Blk.new_at rfl, OwnTab.nil⟩
    case inl =>
      by_cases hp : parseOk t = true
      · have hpa2 : Hid (∀ w, Calls Tryz.prog 86 #[.string ⟨t.toArray⟩] w fun e w' => ∃ v, e = .returned (.tuple #[v, .int .i64 0]) ∧ OwnTab w' w.heap.size v (looseT t) ∧ Below w.heap.size w w') := Lib.hid (fun w => (hpa.out w).mono fun e w' hR => by
          obtain ⟨hb, hR⟩ := hR
          rw [if_pos hp] at hR
          obtain ⟨v, h1, h2⟩ := hR
          exact ⟨v, h1, h2, hb⟩)
        replace hp := Lib.hid hp
        clear hpa
        go_enter Tryz.func55, Tryz.ntmps55
        go_wp2_with (first
          | (go_at_call 56; (with_reducible refine hrm.out.mono ?_); rintro e w2 ⟨rfl, ht, L', ⟨bn2, bs2, v2, hD2, rfl⟩, hL⟩)
          | (go_at_call 85; (with_reducible refine (hrd.out _ _ _ _ hD2).mono ?_); rintro e w3 ⟨rfl, rfl⟩)
          | (go_at_call 86; (with_reducible refine (hpa2.out _).mono ?_); rintro e w4 ⟨tv, rfl, hO4, hb4⟩; obtain ⟨TA, tc, rfl, _⟩ := hO4.form))
        refine bodyPost_ret (results_tmp2 rfl _ _ _) rfl ?_
        have hba := (Below.refl w4.heap.size w4).alloc (Nat.le_refl _) (.cells #[.pointer (some ⟨g, 0, none⟩), .slice TA (looseT t).length tc, .bool false] 147)
        refine ⟨turned_below ht hD2 hL (hb4.trans (hba.mono hb4.size)), ?_⟩
        rw [hE.out, hT.out, hp.out]
        obtain ⟨vs, hvl, hrow, hh⟩ := hO4
        have hO5 : OwnTab (w4.alloc (.cells #[.pointer (some ⟨g, 0, none⟩), .slice TA (looseT t).length tc, .bool false] 147)) w.heap.size (.slice TA (looseT t).length tc) (looseT t) := (OwnTab.keepB ⟨vs, hvl, hrow, hh⟩ hba).lower ht.size
        exact ⟨_, _, rfl, Nat.le_trans ht.size hb4.size, Blk.new_at rfl, hO5⟩
      · have hpa2 : Hid (∀ w, Calls Tryz.prog 86 #[.string ⟨t.toArray⟩] w fun e w' => e = .returned (.tuple #[.slice none 0 0, .int .i64 7]) ∧ Below w.heap.size w w') := Lib.hid (fun w => (hpa.out w).mono fun e w' hR => by
          obtain ⟨hb, hR⟩ := hR
          rw [if_neg hp] at hR
          exact ⟨hR, hb⟩)
        have hp' : parseOk t = false := by simpa using hp
        replace hp' := Lib.hid hp'
        clear hpa hp
        go_enter Tryz.func55, Tryz.ntmps55
        go_wp2_with (first
          | (go_at_call 56; (with_reducible refine hrm.out.mono ?_); rintro e w2 ⟨rfl, ht, L', ⟨bn2, bs2, v2, hD2, rfl⟩, hL⟩)
          | (go_at_call 85; (with_reducible refine (hrd.out _ _ _ _ hD2).mono ?_); rintro e w3 ⟨rfl, rfl⟩)
          | (go_at_call 86; (with_reducible refine (hpa2.out _).mono ?_); rintro e w4 ⟨rfl, hb4⟩))
        refine bodyPost_ret (results_tmp2 rfl _ _ _) rfl ?_
        refine ⟨turned_below ht hD2 hL hb4, ?_⟩
        rw [hE.out, hp'.out]; rfl
end Go.Proofs.YtamdhaoglapnnaaGreatDoor
end

section
/- The walk of Refs.Do. -/
namespace Go.Proofs.YtamdhaoglapnnaaGreatDoor
open Go.RowKit

def chainE (S : DS) : List Call → Int
  | [] => 0
  | c :: r => if c.errno S = 0 then chainE (c.turn S) r else c.errno S
def chainS (S : DS) : List Call → DS
  | [] => S
  | c :: r => if c.errno S = 0 then chainS (c.turn S) r else c.turn S
def doCalls (s : Str) : List Call := [.write nextN s, .sync, .rename nextN fileN, .sync]
theorem OwnTab.touch {w w' : World} {L : List Nat} {base : Nat} {v : Value} {T : Tab} (h : OwnTab w base v T) (ht : Touch L w w') (hn : ∀ i ∈ L, ∀ t cs, Blk w i t cs → t ≠ 138 ∧ t ≠ 115) : OwnTab w' base v T := by
  obtain ⟨vs, hl, ho, hh⟩ := h
  refine ⟨vs, hl, own_touch ho ht (fun b hb hm => ?_), fun k b u h1 h2 => (hh k b u h1 h2).keep (fun b cs _ hB => hB.touch ht (fun hm => (hn b hm _ _ hB).2 rfl))⟩
  obtain ⟨cs, hB⟩ := own_blk ho b hb
  exact (hn b hm _ _ hB).1 rfl
theorem foot_tags {w : World} {g bn bs : Nat} {pv : Value} {S : DS} (hD : DiskAt w g bn bs pv S) : ∀ i ∈ foot g bn bs pv, ∀ t cs, Blk w i t cs → t = 90 ∨ t = 145 := fun i hi t cs hB => by
  by_cases h1 : t = 90
  · exact .inl h1
  · by_cases h2 : t = 145
    · exact .inr h2
    · exact absurd hi (hD.tag hB h1 h2)
theorem eq_of_flag {e : Int} (h : (e == 0) = true) : e = 0 := by simpa using h
theorem eq_of_flag2 {e : Int} (h : (e != 0) = false) : e = 0 := by simpa using h
theorem ne_of_flag {e : Int} (h : (e != 0) = true) : e ≠ 0 := by simpa using h
/-- Between two calls to the disk. -/
structure Mid (w : World) (L : List Nat) (rb g : Nat) (v nv : Value) (base : Nat) (T : Tab) (S : DS) (W : World) : Prop where
  touch : Touch L w W
  disk : ∃ L', DiskIs W L' g S ∧ ∀ i ∈ L', i ∈ L ∨ w.heap.size ≤ i
  ref : Blk W rb 147 [.pointer (some ⟨g, 0, none⟩), v, .bool false]
  own : OwnTab W base nv T
theorem Mid.step {w : World} {L : List Nat} {rb g : Nat} {v nv : Value} {base : Nat} {T : Tab} {S S' : DS} {W W' : World} (h : Mid w L rb g v nv base T S W) {bn bs : Nat} {pv : Value} (hD : DiskAt W g bn bs pv S) (hL : ∀ i ∈ foot g bn bs pv, i ∈ L ∨ w.heap.size ≤ i) (ht : Turned W (foot g bn bs pv) g S' W') : Mid w L rb g v nv base T S' W' := by
  obtain ⟨ht, L', hD', hL'⟩ := ht
  have hf := foot_tags hD
  refine ⟨h.touch.trans ht hL, ⟨L', hD', fun i hi => ?_⟩, h.ref.touch ht (hD.tag h.ref (by decide) (by decide)), h.own.touch ht (fun i hi t cs hB => ?_)⟩
  · rcases hL' i hi with h1 | h1
    · exact hL i h1
    · exact .inr (Nat.le_trans h.touch.size h1)
  · rcases hf i hi t cs hB with rfl | rfl <;> exact ⟨by decide, by decide⟩
def DoTo (w : World) (L : List Nat) (rb g : Nat) (v : Value) (T : Tab) (E : Int) (S : DS) (e : Ending) (w' : World) : Prop :=
  e = .returned (.int .i64 E) ∧ Touch (rb :: L) w w' ∧ (∃ L', DiskIs w' L' g S ∧ ∀ i ∈ L', i ∈ L ∨ w.heap.size ≤ i) ∧
  ∃ nv, Blk w' rb 147 [.pointer (some ⟨g, 0, none⟩), nv, .bool (decide (E = 15))] ∧ if E = 0 then OwnTab w' w.heap.size nv T else nv = v
theorem DiskIs.set {W : World} {L' : List Nat} {g : Nat} {S : DS} {rb i : Nat} {u : Value} {cs : List Value} (h : DiskIs W L' g S) (hB : Blk W rb 147 cs) : DiskIs (W.setCell ⟨rb, i, none⟩ u) L' g S := by
  obtain ⟨bn, bs, pv, hD, rfl⟩ := id h
  refine h.touch (M := [rb]) (Touch.setCell u (by simp)) (fun j hj hm => ?_) (fun j hj cs' hB' => ?_)
  · simp only [List.mem_singleton] at hm
    subst hm
    exact hD.tag hB (by decide) (by decide) hj
  · simp only [List.mem_singleton] at hj
    subst hj
    exact hB'.ne_ hB (by decide) rfl
theorem OwnTab.set {W : World} {base : Nat} {v : Value} {T : Tab} {rb i : Nat} {u : Value} {cs : List Value} (h : OwnTab W base v T) (hB : Blk W rb 147 cs) : OwnTab (W.setCell ⟨rb, i, none⟩ u) base v T :=
  h.touch (L := [rb]) (Touch.setCell u (by simp)) (fun j hj t cs' hB' => by
    simp only [List.mem_singleton] at hj
    subst hj
    have := hB'.unique hB
    subst this
    exact ⟨by decide, by decide⟩)
/-- Where the calls have failed. -/
theorem DoTo.bad {w : World} {L : List Nat} {rb g : Nat} {v nv : Value} {base : Nat} {T T' : Tab} {S : DS} {W : World} {E : Int} (h : Mid w L rb g v nv base T S W) (hE : E ≠ 0) :
    DoTo w L rb g v T' E S (.returned (.int .i64 E)) (W.setCell ⟨rb, 2, none⟩ (.bool (decide (E = 15)))) := by
  obtain ⟨L', hD, hL'⟩ := h.disk
  refine ⟨rfl, h.touch.mono (fun i hi => .inl (by simp [hi])) |>.trans (Touch.setCell (L := [rb]) _ (by simp)) (fun i hi => .inl (by simp at hi; simp [hi])), ⟨L', hD.set h.ref, hL'⟩, v, h.ref.set_ 2 _, ?_⟩
  rw [if_neg hE]
theorem DoTo.good {w : World} {L : List Nat} {rb g : Nat} {v nv : Value} {T : Tab} {S : DS} {W : World} (h : Mid w L rb g v nv w.heap.size T S W) :
    DoTo w L rb g v T 0 S (.returned (.int .i64 0)) ((W.setCell ⟨rb, 2, none⟩ (.bool false)).setCell ⟨rb, 1, none⟩ nv) := by
  obtain ⟨L', hD, hL'⟩ := h.disk
  have hB2 := h.ref.set_ 2 (.bool false)
  refine ⟨rfl, (h.touch.mono (fun i hi => .inl (by simp [hi])) |>.trans (Touch.setCell (L := [rb]) _ (by simp)) (fun i hi => .inl (by simp at hi; simp [hi]))).trans (Touch.setCell (L := [rb]) _ (by simp)) (fun i hi => .inl (by simp at hi; simp [hi])), ⟨L', (hD.set h.ref).set hB2, hL'⟩, nv, hB2.set_ 1 _, ?_⟩
  rw [if_pos rfl]
  exact (h.own.set h.ref).set hB2
set_option maxRecDepth 100000 in
set_option maxHeartbeats 4000000 in
theorem do_nil (u : Value) (w : World) : Calls Tryz.prog 180 #[.pointer none, u] w fun e w' => e = .returned (.int .i64 2) ∧ w' = w := by
  go_enter Tryz.func180, Tryz.ntmps180
  go_wp2
  go_ret
  exact ⟨rfl, rfl⟩
set_option maxRecDepth 100000 in
set_option maxHeartbeats 4000000 in
theorem do_none (rb : Nat) (u v br : Value) (w : World) (hB : Blk w rb 147 [.pointer none, v, br]) : Calls Tryz.prog 180 #[.pointer (some ⟨rb, 0, none⟩), u] w fun e w' => e = .returned (.int .i64 2) ∧ w' = w := by
  have h0 := hB.cell 0
  go_enter Tryz.func180, Tryz.ntmps180
  go_wp2
  go_ret
  exact ⟨rfl, rfl⟩
set_option maxRecDepth 100000 in
set_option maxHeartbeats 4000000 in
theorem do_broken (rb g : Nat) (u v : Value) (w : World) (hB : Blk w rb 147 [.pointer (some ⟨g, 0, none⟩), v, .bool true]) : Calls Tryz.prog 180 #[.pointer (some ⟨rb, 0, none⟩), u] w fun e w' => e = .returned (.int .i64 16) ∧ w' = w := by
  have h0 := hB.cell 0
  have h2 := hB.cell 2
  go_enter Tryz.func180, Tryz.ntmps180
  go_wp2
  go_ret
  exact ⟨rfl, rfl⟩
set_option maxRecDepth 100000 in
set_option maxHeartbeats 4000000 in
/-- Changes that are refused, or none at all. -/
theorem do_early (rb g : Nat) (v u : Value) (T : Tab) (C : List Chg) (ok ok' : Nat → Prop) (w : World) (hB : Blk w rb 147 [.pointer (some ⟨g, 0, none⟩), v, .bool false])
    (h : TabIs w ok v T) (hf : TFit T) (h' : ChsIs w ok' u C) (hc : CFit C) (hE : applyE T C ≠ 0 ∨ C = []) :
    Calls Tryz.prog 180 #[.pointer (some ⟨rb, 0, none⟩), u] w fun e w' => e = .returned (.int .i64 (applyE T C)) ∧ Below w.heap.size w w' := by
  have hap := Lib.hid (apply_any T C v u ok ok' w h hf h' hc)
  obtain ⟨A, tc, rfl, htc⟩ := h.form
  obtain ⟨CA, cc, rfl, hcc⟩ := h'.form
  have h0 := hB.cell 0
  have h1 := hB.cell 1
  have h2 := hB.cell 2
  obtain ⟨E, hEe⟩ : ∃ E, E = applyE T C := ⟨_, rfl⟩
  unfold ApplyTo at hap
  rw [← hEe] at hap hE ⊢
  replace hEe := Lib.hid hEe
  clear h h'
  by_cases hE0 : E = 0
  · subst hE0
    obtain rfl : C = [] := by
      rcases hE with h | h
      · exact absurd rfl h
      · exact h
    clear hE
    simp only [List.length_nil] at hap ⊢
    go_enter Tryz.func180, Tryz.ntmps180
    go_wp2_with (first
      | (go_at_call 178; (with_reducible refine hap.out.mono ?_); rintro e w2 ⟨nv, rfl, hO2, hb2⟩; obtain ⟨NA, nc, rfl, _⟩ := hO2.form))
    go_ret
    exact ⟨rfl, hb2⟩
  · clear hE
    go_enter Tryz.func180, Tryz.ntmps180
    go_wp2_with (first
      | (go_at_call 178; (with_reducible refine hap.out.mono ?_); rintro e w2 ⟨nv, rfl, hO2, hb2⟩; obtain ⟨NA, nc, rfl, _⟩ := hO2.form))
    go_ret
    exact ⟨rfl, hb2⟩
set_option maxRecDepth 100000 in
set_option maxHeartbeats 8000000 in
/-- Changes that are done. -/
theorem do_late (rb g bn bs : Nat) (pv v u : Value) (S : DS) (T : Tab) (C : List Chg) (ok ok' : Nat → Prop) (w : World) (hB : Blk w rb 147 [.pointer (some ⟨g, 0, none⟩), v, .bool false])
    (h : TabIs w ok v T) (hf : TFit T) (h' : ChsIs w ok' u C) (hc : CFit C) (hE : applyE T C = 0) (hC : C ≠ []) (hft : TFit (applyT T C)) (hpl : (printT (applyT T C)).length ≤ 140737488355328)
    (hD : DiskAt w g bn bs pv S) (hA0 : Asked S) (hA1 : Asked ((Call.write nextN (printT (applyT T C))).turn S)) (hA2 : Asked (Call.sync.turn ((Call.write nextN (printT (applyT T C))).turn S)))
    (hA3 : Asked ((Call.rename nextN fileN).turn (Call.sync.turn ((Call.write nextN (printT (applyT T C))).turn S)))) :
    Calls Tryz.prog 180 #[.pointer (some ⟨rb, 0, none⟩), u] w (DoTo w (foot g bn bs pv) rb g v (applyT T C) (chainE S (doCalls (printT (applyT T C)))) (chainS S (doCalls (printT (applyT T C))))) := by
  have hap := Lib.hid (apply_any T C v u ok ok' w h hf h' hc)
  obtain ⟨A, tc, rfl, htc⟩ := h.form
  obtain ⟨CA, cc, rfl, hcc⟩ := h'.form
  unfold ApplyTo at hap
  rw [hE] at hap
  obtain ⟨N, hN⟩ : ∃ N, N = applyT T C := ⟨_, rfl⟩
  obtain ⟨Pt, hPt⟩ : ∃ Pt, Pt = printT (applyT T C) := ⟨_, rfl⟩
  rw [← hPt] at hpl hA1 hA2 hA3 ⊢
  rw [← hN] at hap hft hPt ⊢
  have hpr : Hid (∀ (nv : Value) (W : World), OwnTab W w.heap.size nv N → Calls Tryz.prog 151 #[nv] W fun e w' => e = .returned (.tuple #[.string ⟨Pt.toArray⟩, .int .i64 (mayE N)]) ∧ Below W.heap.size W w') := Lib.hid (fun nv W hO => by rw [hPt]; exact print_any N nv _ W hO.tab hft)
  obtain ⟨m, hm⟩ : ∃ m, m = mayE N := ⟨_, rfl⟩
  rw [← hm] at hpr
  have hCl : 0 < C.length := List.length_pos_iff.2 hC
  obtain ⟨S1, hS1⟩ : ∃ S1, S1 = (Call.write nextN Pt).turn S := ⟨_, rfl⟩
  obtain ⟨S2, hS2⟩ : ∃ S2, S2 = Call.sync.turn S1 := ⟨_, rfl⟩
  obtain ⟨S3, hS3⟩ : ∃ S3, S3 = (Call.rename nextN fileN).turn S2 := ⟨_, rfl⟩
  obtain ⟨e1, he1⟩ : ∃ e1, e1 = (Call.write nextN Pt).errno S := ⟨_, rfl⟩
  obtain ⟨e2, he2⟩ : ∃ e2, e2 = Call.sync.errno S1 := ⟨_, rfl⟩
  obtain ⟨e3, he3⟩ : ∃ e3, e3 = (Call.rename nextN fileN).errno S2 := ⟨_, rfl⟩
  obtain ⟨e4, he4⟩ : ∃ e4, e4 = Call.sync.errno S3 := ⟨_, rfl⟩
  rw [← hS1] at hA1 hA2 hA3
  rw [← hS2] at hA2 hA3
  rw [← hS3] at hA3
  have hwr : Hid (∀ nv W, Mid w (foot g bn bs pv) rb g (.slice A T.length tc) nv w.heap.size N S W → Calls Tryz.prog 135 #[.pointer (some ⟨g, 0, none⟩), .string ⟨#[114, 101, 102, 115, 46, 110, 101, 119]⟩, .string ⟨Pt.toArray⟩] W fun e W' => e = .returned (.int .i64 e1) ∧ Mid w (foot g bn bs pv) rb g (.slice A T.length tc) nv w.heap.size N S1 W') := Lib.hid (fun nv W hm => by
    obtain ⟨L', ⟨bn', bs', pv', hD', rfl⟩, hL'⟩ := hm.disk
    refine (dwrite_any g bn' bs' pv' S nextN Pt W hD' hA0 (by decide) hpl).mono ?_
    rintro e W' ⟨he, ht⟩
    rw [← hS1] at ht
    exact ⟨by rw [he, he1], hm.step hD' hL' ht⟩)
  have hs1 : Hid (∀ nv W, Mid w (foot g bn bs pv) rb g (.slice A T.length tc) nv w.heap.size N S1 W → Calls Tryz.prog 136 #[.pointer (some ⟨g, 0, none⟩)] W fun e W' => e = .returned (.int .i64 e2) ∧ Mid w (foot g bn bs pv) rb g (.slice A T.length tc) nv w.heap.size N S2 W') := Lib.hid (fun nv W hm => by
    obtain ⟨L', ⟨bn', bs', pv', hD', rfl⟩, hL'⟩ := hm.disk
    refine (sync_any g bn' bs' pv' S1 W hD' hA1.toFit).mono ?_
    rintro e W' ⟨he, ht⟩
    rw [← hS2] at ht
    exact ⟨by rw [he, he2], hm.step hD' hL' ht⟩)
  have hrn : Hid (∀ nv W, Mid w (foot g bn bs pv) rb g (.slice A T.length tc) nv w.heap.size N S2 W → Calls Tryz.prog 138 #[.pointer (some ⟨g, 0, none⟩), .string ⟨#[114, 101, 102, 115, 46, 110, 101, 119]⟩, .string ⟨#[114, 101, 102, 115]⟩] W fun e W' => e = .returned (.int .i64 e3) ∧ Mid w (foot g bn bs pv) rb g (.slice A T.length tc) nv w.heap.size N S3 W') := Lib.hid (fun nv W hm => by
    obtain ⟨L', ⟨bn', bs', pv', hD', rfl⟩, hL'⟩ := hm.disk
    refine (rename_any g bn' bs' pv' S2 nextN fileN W hD' hA2 (by decide) (by decide)).mono ?_
    rintro e W' ⟨he, ht⟩
    rw [← hS3] at ht
    exact ⟨by rw [he, he3], hm.step hD' hL' ht⟩)
  have hs2 : Hid (∀ nv W, Mid w (foot g bn bs pv) rb g (.slice A T.length tc) nv w.heap.size N S3 W → Calls Tryz.prog 136 #[.pointer (some ⟨g, 0, none⟩)] W fun e W' => e = .returned (.int .i64 e4) ∧ Mid w (foot g bn bs pv) rb g (.slice A T.length tc) nv w.heap.size N (Call.sync.turn S3) W') := Lib.hid (fun nv W hm => by
    obtain ⟨L', ⟨bn', bs', pv', hD', rfl⟩, hL'⟩ := hm.disk
    refine (sync_any g bn' bs' pv' S3 W hD' hA3.toFit).mono ?_
    rintro e W' ⟨he, ht⟩
    exact ⟨by rw [he, he4], hm.step hD' hL' ht⟩)
  have hcE : Hid (chainE S (doCalls Pt) = if e1 = 0 then (if e2 = 0 then (if e3 = 0 then (if e4 = 0 then 0 else e4) else e3) else e2) else e1) := Lib.hid (by simp only [doCalls, chainE, ← hS1, ← he1, ← hS2, ← he2, ← hS3, ← he3, ← he4])
  have hcS : Hid (chainS S (doCalls Pt) = if e1 = 0 then (if e2 = 0 then (if e3 = 0 then (if e4 = 0 then Call.sync.turn S3 else Call.sync.turn S3) else S3) else S2) else S1) := Lib.hid (by simp only [doCalls, chainS, ← hS1, ← he1, ← hS2, ← he2, ← hS3, ← he3, ← he4])
  have hmid : Hid (∀ nv W, OwnTab W w.heap.size nv N → Below w.heap.size w W → Mid w (foot g bn bs pv) rb g (.slice A T.length tc) nv w.heap.size N S W) := Lib.hid (fun nv W hO hb => ⟨Touch.ofBelow hb, ⟨_, ⟨bn, bs, pv, hD.below hb, rfl⟩, fun i hi => .inl hi⟩, hB.below hb hB.lt, hO⟩)
  have h0 := hB.cell 0
  have h1 := hB.cell 1
  have h2 := hB.cell 2
  have iC : ((C.length : Int) == 0) = false := by rw [beq_eq_false_iff_ne]; omega
  clear h h' hS1 hS2 hS3 he1 he2 he3 he4 hm hPt hN hE hD hA0 hA1 hA2 hA3 hC
  go_enter Tryz.func180, Tryz.ntmps180
  go_wp2_with (first
    | (go_at_call 178; (with_reducible refine hap.out.mono ?_); rintro e w2 ⟨nv, rfl, hO2, hb2⟩; obtain ⟨NA, nc, rfl, _⟩ := hO2.form; replace hO2 := Lib.hid hO2)
    | (go_at_call 151; (with_reducible refine (hpr.out _ _ hO2.out).mono ?_); rintro e w3 ⟨rfl, hb3⟩; have hm0 := hmid.out _ w3 (hO2.out.keepB hb3) (hb2.trans (hb3.mono hb2.size)); have r0 := hm0.ref.cell 0)
    | (go_at_call 135; (with_reducible refine (hwr.out _ _ hm0).mono ?_); rintro e w4 ⟨rfl, hm1⟩; have r0 := hm1.ref.cell 0; have r2 := hm1.ref.cell 2; have f2 := hm1.ref.frozen 2)
    | (go_at_call 136; (with_reducible refine (hs2.out _ _ hm3).mono ?_); rintro e w7 ⟨rfl, hm4⟩; have r0 := hm4.ref.cell 0; have r2 := hm4.ref.cell 2; have f2 := hm4.ref.frozen 2; have r1 := hm4.ref.cell 1; have f1 := hm4.ref.frozen 1)
    | (go_at_call 136; (with_reducible refine (hs1.out _ _ hm1).mono ?_); rintro e w5 ⟨rfl, hm2⟩; have r0 := hm2.ref.cell 0; have r2 := hm2.ref.cell 2; have f2 := hm2.ref.frozen 2)
    | (go_at_call 138; (with_reducible refine (hrn.out _ _ hm2).mono ?_); rintro e w6 ⟨rfl, hm3⟩; have r0 := hm3.ref.cell 0; have r2 := hm3.ref.cell 2; have f2 := hm3.ref.frozen 2))
  · have z1 : e1 = 0 := eq_of_flag (by assumption)
    have z2 : e2 = 0 := eq_of_flag (by assumption)
    have z3 : e3 = 0 := eq_of_flag (by assumption)
    have z4 : e4 ≠ 0 := ne_of_flag (by assumption)
    go_ret
    rw [hcE.out, hcS.out, if_pos z1, if_pos z2, if_pos z3, if_neg z4, if_pos z1, if_pos z2, if_pos z3, if_neg z4]
    exact DoTo.bad hm4 z4
  · have z1 : e1 = 0 := eq_of_flag (by assumption)
    have z2 : e2 = 0 := eq_of_flag (by assumption)
    have z3 : e3 = 0 := eq_of_flag (by assumption)
    have z4 : e4 = 0 := eq_of_flag2 (by assumption)
    subst z4
    go_ret
    rw [hcE.out, hcS.out, if_pos z1, if_pos z2, if_pos z3, if_pos rfl, if_pos z1, if_pos z2, if_pos z3, if_pos rfl]
    exact DoTo.good hm4
  · have z1 : e1 = 0 := eq_of_flag (by assumption)
    have z2 : e2 = 0 := eq_of_flag (by assumption)
    have z4 : e3 ≠ 0 := ne_of_flag (by assumption)
    go_ret
    rw [hcE.out, hcS.out, if_pos z1, if_pos z2, if_neg z4, if_pos z1, if_pos z2, if_neg z4]
    exact DoTo.bad hm3 z4
  · have z1 : e1 = 0 := eq_of_flag (by assumption)
    have z4 : e2 ≠ 0 := ne_of_flag (by assumption)
    go_ret
    rw [hcE.out, hcS.out, if_pos z1, if_neg z4, if_pos z1, if_neg z4]
    exact DoTo.bad hm2 z4
  · have z4 : e1 ≠ 0 := ne_of_flag (by assumption)
    go_ret
    rw [hcE.out, hcS.out, if_neg z4, if_neg z4]
    exact DoTo.bad hm1 z4
end Go.Proofs.YtamdhaoglapnnaaGreatDoor
end
end

section
/- Joined: RfSt, RfRt, RfSe, RfPl, RfDl. -/
section
/- The disk of a table of names, in plain words. -/
namespace Go.Proofs.YtamdhaoglapnnaaGreatDoor

structure Holds (D : DM) (X : Option Str) : Prop where
  map : StrMap D
  next : fHas D nextN = false
  file : fHas D fileN = X.isSome
  text : fS D fileN = X.getD []
  len : fLen D = if X.isSome then 1 else 0
  sum : fSum D = (X.getD []).length
/-- A disk that is on, and sure of all it holds. -/
structure Live (S : DS) (X : Option Str) : Prop where
  inv : Inv S 0
  off : S.off = false
  fuse : S.fuse = -1
  sure : S.sure = S.now
  holds : Holds S.now X
section
variable {S : DS} {X : Option Str}
theorem Live.pend (h : Live S X) : S.pend = [] := List.eq_nil_of_length_eq_zero (Nat.le_zero.1 h.inv.len)
theorem tick_live {S : DS} (ho : S.off = false) (hf : S.fuse = -1) : S.tick = S := by
  obtain ⟨a, b, c, d, e, f⟩ := S
  simp only at ho hf
  subst ho; subst hf
  rfl
theorem Live.new {room : Int} (h0 : 0 ≤ room) (h1 : room ≤ 16777216) : Live (DS.new room) none :=
  ⟨Inv.new h0 h1, rfl, rfl, rfl, ⟨StrMap.nil, rfl, rfl, rfl, rfl, rfl⟩⟩
theorem Live.openS (h : Live S X) : Proofs.YtamdhaoglapnnaaGreatDoor.openS S = S := by
  have e : (Call.remove nextN).err S = 5 := by
    show (if nameB nextN = true then (if fHas S.now nextN = true then (0 : Int) else 5) else 11) = 5
    rw [if_pos (by decide), h.holds.next]; rfl
  unfold Proofs.YtamdhaoglapnnaaGreatDoor.openS Call.turn
  rw [tick_live h.off h.fuse, h.off, e]
  rfl
theorem Live.readE (h : Live S X) : S.readE fileN = if X.isSome then 0 else 5 := by
  unfold DS.readE
  rw [h.off, h.holds.file]
  rw [show nameB fileN = true by decide]
  simp
theorem Live.readT (h : Live S X) : S.readT fileN = X.getD [] := by
  unfold DS.readT
  rw [h.off, h.holds.text]
  rw [show nameB fileN = true by decide]
  simp
theorem Live.removeE (h : Live S X) : (Call.remove nextN).errno S = 5 := by
  have e : (Call.remove nextN).err S = 5 := by
    show (if nameB nextN = true then (if fHas S.now nextN = true then (0 : Int) else 5) else 11) = 5
    rw [if_pos (by decide), h.holds.next]; rfl
  unfold Call.errno
  rw [tick_live h.off h.fuse, h.off, e]
  rfl
theorem Live.openE_none (h : Live S none) : openE S = 0 ∧ openT S = [] := by
  unfold openE openT
  rw [h.openS, h.removeE, h.readE]
  exact ⟨rfl, rfl⟩
theorem Live.openE_some {t : Str} (h : Live S (some t)) (hp : parseOk t = true) : openE S = 0 ∧ openT S = looseT t := by
  unfold openE openT
  rw [h.openS, h.removeE, h.readE, h.readT]
  simp [hp]
theorem Live.crash (h : Live S X) (l : List Int) : Live (S.crash l) X := by
  have e : S.crash l = { S with now := S.sure, sure := S.sure, pend := [], fuse := -1, off := false } := by
    unfold DS.crash; rw [h.pend]; rfl
  have e2 : S.crash l = S := by
    rw [e]
    obtain ⟨a, b, c, d, f, g⟩ := S
    have h1 := h.off; have h2 := h.fuse; have h3 := h.sure; have h4 := h.pend
    simp only at h1 h2 h3 h4
    subst h1; subst h2; subst h3; subst h4
    rfl
  rw [e2]; exact h
theorem live_err {S : DS} (c : Call) (ho : S.off = false) (hf : S.fuse = -1) : c.errno S = c.err S := by
  unfold Call.errno
  rw [tick_live ho hf, ho]; rfl
theorem live_turn {S : DS} (c : Call) (ho : S.off = false) (hf : S.fuse = -1) : c.turn S = if c.err S = 0 then c.done S else S := by
  unfold Call.turn
  rw [tick_live ho hf, ho]; rfl
theorem Live.full (h : Live S X) (t : Str) : (Call.write nextN t).err S = if S.room < (t.length : Int) + ((X.getD []).length : Int) then 14 else 0 := by
  show (if nameB nextN = true then (if fullB S nextN t = true then (14 : Int) else 0) else 11) = _
  rw [if_pos (by decide)]
  have hn : fS S.now nextN = [] := fS_none h.holds.next
  have hl := h.holds.len
  have : fullB S nextN t = decide (S.room < (t.length : Int) + ((X.getD []).length : Int)) := by
    unfold fullB
    rw [hn, h.holds.next, h.holds.sum, hl]
    have : decide (600 < (if X.isSome = true then 1 else 0) + (if false = true then 0 else 1)) = false := by
      cases X <;> simp
    rw [this, Bool.or_false]
    simp only [List.length_nil, Int.ofNat_zero]
    exact decide_eq_decide.2 ⟨fun _ => by omega, fun _ => by omega⟩
  rw [this]
  by_cases hc : S.room < (t.length : Int) + ((X.getD []).length : Int) <;> simp [hc]
theorem Live.chain_full (h : Live S X) {t : Str} (hc : S.room < (t.length : Int) + ((X.getD []).length : Int)) : chainE S (doCalls t) = 14 ∧ chainS S (doCalls t) = S := by
  have e := h.full t
  rw [if_pos hc] at e
  unfold doCalls chainE chainS
  rw [live_err _ h.off h.fuse, live_turn _ h.off h.fuse, e]
  exact ⟨rfl, rfl⟩
theorem nf : fileN ≠ nextN := by decide
theorem Holds.write {D : DM} {X : Option Str} (h : Holds D X) (t : Str) : Holds (fPut (fDel (fPut D nextN t) nextN) fileN t) (some t) := by
  have m1 : StrMap (fPut D nextN t) := h.map.put _ _
  have m2 : StrMap (fDel (fPut D nextN t) nextN) := m1.del _
  have f2 : fHas (fDel (fPut D nextN t) nextN) fileN = X.isSome := by rw [fHas_del_other nf, fHas_put_other nf]; exact h.file
  have s2 : fS (fDel (fPut D nextN t) nextN) fileN = X.getD [] := by rw [fS_del_other nf, fS_put_other nf]; exact h.text
  have l1 := fLen_put (k := nextN) (t := t) h.map
  rw [h.next] at l1
  have l2 := fLen_del (k := nextN) m1
  rw [fHas_put_same h.map] at l2
  have l3 := fLen_put (k := fileN) (t := t) m2
  rw [f2] at l3
  have q1 := fSum_put h.map nextN t
  rw [fS_none h.next] at q1
  have q2 := fSum_del (k := nextN) m1
  rw [fS_put_same h.map] at q2
  have q3 := fSum_put m2 fileN t
  rw [s2] at q3
  have hl := h.len
  have hs := h.sum
  refine ⟨m2.put _ _, ?_, fHas_put_same m2, fS_put_same m2, ?_, ?_⟩
  · rw [fHas_put_other (Ne.symm nf)]; exact fHas_del_same
  · rw [l3]
    simp at l1 l2
    cases X <;> simp at hl ⊢ <;> omega
  · simp at q1 ⊢
    omega
/-- What the four calls leave. -/
def Live.after (S : DS) (t : Str) : DS := { S with now := fPut (fDel (fPut S.now nextN t) nextN) fileN t, sure := fPut (fDel (fPut S.now nextN t) nextN) fileN t, pend := [] }
structure ChainOk (S : DS) (t : Str) : Prop where
  e : chainE S (doCalls t) = 0
  s : chainS S (doCalls t) = Live.after S t
  live : Live (Live.after S t) (some t)
  a0 : Asked S
  a1 : Asked ((Call.write nextN t).turn S)
  a2 : Asked (Call.sync.turn ((Call.write nextN t).turn S))
  a3 : Asked ((Call.rename nextN fileN).turn (Call.sync.turn ((Call.write nextN t).turn S)))
theorem Live.chain (h : Live S X) {t : Str} (hc : ¬ S.room < (t.length : Int) + ((X.getD []).length : Int)) : ChainOk S t := by
  have i1 := h.inv.turn (Call.write nextN t)
  have i2 := i1.turn Call.sync
  have i3 := i2.turn (Call.rename nextN fileN)
  have i4 := i3.turn Call.sync
  have e := h.full t
  rw [if_neg hc] at e
  have w1 : (Call.write nextN t).errno S = 0 := (live_err _ h.off h.fuse).trans e
  have t1 : (Call.write nextN t).turn S = S.does (.write nextN t) := by rw [live_turn _ h.off h.fuse, e]; rfl
  have o1 : (S.does (.write nextN t)).off = false := h.off
  have f1 : (S.does (.write nextN t)).fuse = -1 := h.fuse
  have n1 : (S.does (.write nextN t)).now = fPut S.now nextN t := by show fPut S.now nextN (cutT t 1) = _; rfl
  have w2 : Call.sync.errno (S.does (.write nextN t)) = 0 := live_err _ o1 f1
  have t2 : Call.sync.turn (S.does (.write nextN t)) = { S with now := fPut S.now nextN t, sure := fPut S.now nextN t, pend := [] } := by rw [live_turn _ o1 f1]; rfl
  obtain ⟨S2, hS2⟩ : ∃ S2 : DS, S2 = { S with now := fPut S.now nextN t, sure := fPut S.now nextN t, pend := [] } := ⟨_, rfl⟩
  have o2 : S2.off = false := by rw [hS2]; exact h.off
  have f2 : S2.fuse = -1 := by rw [hS2]; exact h.fuse
  have h2 : fHas S2.now nextN = true := by rw [hS2]; exact fHas_put_same h.holds.map
  have s2 : fS S2.now nextN = t := by rw [hS2]; exact fS_put_same h.holds.map
  have e3 : (Call.rename nextN fileN).err S2 = 0 := by
    show (if (nameB nextN && nameB fileN) = true then (if fHas S2.now nextN = true then (0 : Int) else 5) else 11) = 0
    rw [if_pos (by decide), if_pos h2]
  have w3 : (Call.rename nextN fileN).errno S2 = 0 := (live_err _ o2 f2).trans e3
  have t3 : (Call.rename nextN fileN).turn S2 = S2.does (.rename nextN fileN) := by rw [live_turn _ o2 f2, e3]; rfl
  have n3 : (S2.does (.rename nextN fileN)).now = fPut (fDel (fPut S.now nextN t) nextN) fileN t := by
    show (if fHas S2.now nextN = true then fPut (fDel S2.now nextN) fileN (fS S2.now nextN) else S2.now) = _
    rw [if_pos h2, s2, hS2]
  have o3 : (S2.does (.rename nextN fileN)).off = false := o2
  have f3 : (S2.does (.rename nextN fileN)).fuse = -1 := f2
  have w4 : Call.sync.errno (S2.does (.rename nextN fileN)) = 0 := live_err _ o3 f3
  have t4 : Call.sync.turn (S2.does (.rename nextN fileN)) = Live.after S t := by
    rw [live_turn _ o3 f3]
    show (⟨(S2.does (.rename nextN fileN)).now, (S2.does (.rename nextN fileN)).now, [], S2.room, S2.fuse, S2.off⟩ : DS) = ⟨fPut (fDel (fPut S.now nextN t) nextN) fileN t, fPut (fDel (fPut S.now nextN t) nextN) fileN t, [], S.room, S.fuse, S.off⟩
    rw [n3, hS2]
  rw [t1] at i1 i2 i3 i4
  rw [t2, ← hS2] at i2 i3 i4
  rw [t3] at i3 i4
  rw [t4] at i4
  have hE : chainE S (doCalls t) = 0 := by
    unfold doCalls
    rw [chainE, if_pos w1, t1, chainE, if_pos w2, t2, ← hS2, chainE, if_pos w3, t3, chainE, if_pos w4]
    rfl
  have hS : chainS S (doCalls t) = Live.after S t := by
    unfold doCalls
    rw [chainS, if_pos w1, t1, chainS, if_pos w2, t2, ← hS2, chainS, if_pos w3, t3, chainS, if_pos w4, t4]
    rfl
  refine ⟨hE, hS, ⟨⟨i4.toGood, i4.keys, i4.keys', i4.opn, Nat.le_refl _, i4.re⟩, h.off, h.fuse, rfl, h.holds.write t⟩, h.inv.asked (by omega), ?_, ?_, ?_⟩
  · rw [t1]; exact i1.asked (by omega)
  · rw [t1, t2, ← hS2]; exact i2.asked (by omega)
  · rw [t1, t2, ← hS2, t3]; exact i3.asked (by omega)
end
end Go.Proofs.YtamdhaoglapnnaaGreatDoor
end

section
/- A table's text is read as that table, in plain words. -/
namespace Go.Proofs.YtamdhaoglapnnaaGreatDoor

theorem trim_nl (a : Str) : trimS (a ++ [10]) = a := by
  unfold trimS Lib.trimSuffix
  have : Lib.hasSuffix (a ++ [10]) [10] = true := by
    unfold Lib.hasSuffix
    rw [List.isSuffixOf_iff_suffix]
    exact ⟨a, rfl⟩
  rw [if_pos this]
  simp
theorem lineH_plain : ∀ hs : List Str, ∀ c ∈ lineH hs, c ≠ 10
  | [], c, h => by cases h
  | d :: r, c, h => by
    unfold lineH at h
    rw [List.flatMap_cons] at h
    rcases List.mem_append.1 h with h | h
    · rcases List.mem_cons.1 h with rfl | h
      · decide
      · exact (hex_plain d c h).2
    · exact lineH_plain r c h
theorem split_line : ∀ (a : Str) (hs : List Str), (∀ c ∈ a, c ≠ 32) → splitW (a ++ lineH hs) = a :: hs.map hexOf
  | a, [], h => by
    show splitW (a ++ []) = [a]
    rw [List.append_nil]; exact splitW_none h
  | a, d :: r, h => by
    have e : a ++ lineH (d :: r) = a ++ 32 :: (hexOf d ++ lineH r) := by unfold lineH; rw [List.flatMap_cons]; rfl
    rw [e, splitW_at h, split_line (hexOf d) r (fun c hc => (hex_plain d c hc).1)]
    rfl
theorem lineS_body (b : Br) : lineS b = (b.name ++ lineH b.heads) ++ [10] := rfl
theorem line_words {b : Br} (hn : nmOk b.name = true) : splitW (trimS (lineS b)) = b.name :: b.heads.map hexOf := by
  rw [lineS_body, trim_nl]
  exact split_line _ _ (fun c hc => (nmOk_plain hn c hc).1)
theorem lineOk_lineS {b : Br} (hn : nmOk b.name = true) (hh : hOk b.heads) : lineOk (lineS b) = true := by
  unfold lineOk
  rw [line_words hn, List.tail_cons, List.all_map, List.all_eq_true]
  exact fun d hd => (pd_hexOf d (hh d hd)).1
theorem lineBr_lineS {b : Br} (hn : nmOk b.name = true) (hh : hOk b.heads) : lineBr (lineS b) = b := by
  unfold lineBr
  rw [line_words hn, List.tail_cons, List.headD_cons, List.map_map]
  have : b.heads.map (pd ∘ hexOf) = b.heads := by
    conv => rhs; rw [← List.map_id b.heads]
    exact List.map_congr_left (fun d hd => (pd_hexOf d (hh d hd)).2)
  rw [this]
theorem lines_print : ∀ T : Tab, (∀ b ∈ T, nmOk b.name = true) → linesOf (printS T) = T.map lineS
  | [], _ => rfl
  | b :: r, h => by
    have e : printS (b :: r) = (b.name ++ lineH b.heads) ++ 10 :: printS r := by
      unfold printS; rw [List.flatMap_cons, lineS_body, List.append_assoc]; rfl
    rw [e, linesOf_at (fun c hc => ?_), lines_print r (fun x hx => h x (by simp [hx]))]
    · rfl
    · rcases List.mem_append.1 hc with hc | hc
      · exact (nmOk_plain (h b (by simp)) c hc).2
      · exact lineH_plain _ c hc
theorem parse_print {T : Tab} (hm : mayE T = 0) (hh : tOk T) : parseOk (printS T) = true ∧ looseT (printS T) = T := by
  have hb := ((mayE_zero T).1 hm).2.1
  have hn : ∀ b ∈ T, nmOk b.name = true := fun b hbm => (hb b hbm).1
  have hl := lines_print T hn
  have hT : looseT (printS T) = T := by
    unfold looseT
    rw [hl, List.map_map]
    conv => rhs; rw [← List.map_id T]
    exact List.map_congr_left (fun b hbm => lineBr_lineS (hn b hbm) (hh b hbm))
  refine ⟨?_, hT⟩
  unfold parseOk
  rw [hT, hl, hm]
  have : (T.map lineS).all lineOk = true := by
    rw [List.all_map, List.all_eq_true]
    exact fun b hbm => lineOk_lineS (hn b hbm) (hh b hbm)
  rw [this]
  simp
end Go.Proofs.YtamdhaoglapnnaaGreatDoor
end

section
/- A disk and its names in the middle of a law. -/
namespace Go.Proofs.YtamdhaoglapnnaaGreatDoor
open Go.RowKit

/-- Blocks of other kinds than the disk's and the names' are as they were. -/
def Keeps (W W' : World) : Prop := ∀ k t cs, Blk W k t cs → t ≠ 147 → t ≠ 90 → t ≠ 145 → Blk W' k t cs
theorem Keeps.below {W W' : World} (h : Below W.heap.size W W') : Keeps W W' := fun _ _ _ hB _ _ _ => hB.below h hB.lt
theorem Keeps.trans {A B C : World} (h : Keeps A B) (h' : Keeps B C) : Keeps A C := fun k t cs hB a b c => h' k t cs (h k t cs hB a b c) a b c
theorem Keeps.touch {W W' : World} {g bn bs : Nat} {pv : Value} {S : DS} (hD : DiskAt W g bn bs pv S) (ht : Touch (foot g bn bs pv) W W') : Keeps W W' := fun _ _ _ hB _ b c => hB.touch ht (hD.tag hB b c)
/-- A disk of the law's own. -/
structure Ses (w0 : World) (base g : Nat) (S : DS) (W : World) : Prop where
  bel : Below base w0 W
  size : base ≤ W.heap.size
  disk : ∃ L, DiskIs W L g S ∧ ∀ i ∈ L, base ≤ i
/-- .. and names that lie on it. -/
structure Ref (w0 : World) (base rb g : Nat) (v : Value) (S : DS) (T : Tab) (W : World) : Prop extends Ses w0 base g S W where
  low : base ≤ rb
  ref : Blk W rb 147 [.pointer (some ⟨g, 0, none⟩), v, .bool false]
  own : OwnTab W base v T
/-- The text that is the table's. -/
def TextOf (X : Option Str) (T : Tab) : Prop := (X = none ∧ T = []) ∨ (X = some (printS T) ∧ mayE T = 0 ∧ tOk T)
theorem Ses.below {w0 : World} {base g : Nat} {S : DS} {W W' : World} (h : Ses w0 base g S W) (hb : Below W.heap.size W W') : Ses w0 base g S W' := by
  obtain ⟨L, hD, hL⟩ := h.disk
  exact ⟨h.bel.trans (hb.mono h.size), Nat.le_trans h.size hb.size, L, hD.below hb, hL⟩
theorem Ref.below {w0 : World} {base rb g : Nat} {v : Value} {S : DS} {T : Tab} {W W' : World} (h : Ref w0 base rb g v S T W) (hb : Below W.heap.size W W') : Ref w0 base rb g v S T W' :=
  ⟨h.toSes.below hb, h.low, h.ref.below hb h.ref.lt, h.own.keepB hb⟩
theorem Ses.turned {w0 : World} {base g : Nat} {S S' : DS} {W W' : World} {L : List Nat} (h : Ses w0 base g S W) (hL : ∀ i ∈ L, base ≤ i) (ht : Turned W L g S' W') : Ses w0 base g S' W' := by
  obtain ⟨ht, L', hD, hL'⟩ := ht
  refine ⟨h.bel.trans (ht.below h.size hL), Nat.le_trans h.size ht.size, L', hD, fun i hi => ?_⟩
  rcases hL' i hi with h1 | h1
  · exact hL i h1
  · exact Nat.le_trans h.size h1
theorem print_small {T : Tab} (hm : mayE T = 0) (hh : tOk T) : (printS T).length ≤ 65536 := by
  have h1 := (mayE_zero T).1 hm
  have := printS_len h1.2.1 hh
  have := h1.1
  omega
theorem TextOf.len {X : Option Str} {T : Tab} (h : TextOf X T) : (X.getD []).length ≤ 65536 := by
  rcases h with ⟨rfl, rfl⟩ | ⟨rfl, hm, hh⟩
  · simp
  · exact print_small hm hh
/-- Names are found again. -/
theorem open_live {w0 : World} {base g : Nat} {S : DS} {W : World} {X : Option Str} {T : Tab} (h : Ses w0 base g S W) (hS : Live S X) (hX : TextOf X T) :
    Calls Tryz.prog 55 #[.pointer (some ⟨g, 0, none⟩)] W fun e W' => ∃ rb v, e = .returned (.tuple #[.pointer (some ⟨rb, 0, none⟩), .int .i64 0]) ∧ Ref w0 base rb g v S T W' ∧ Keeps W W' := by
  obtain ⟨L, ⟨bn, bs, pv, hD, rfl⟩, hL⟩ := h.disk
  have hE : openE S = 0 ∧ openT S = T := by
    rcases hX with ⟨rfl, rfl⟩ | ⟨rfl, hm, hh⟩
    · exact hS.openE_none
    · obtain ⟨h1, h2⟩ := parse_print hm hh
      obtain ⟨h3, h4⟩ := hS.openE_some h1
      exact ⟨h3, h4.trans h2⟩
  have hlen := hX.len
  refine (open_any g bn bs pv S W hD (hS.inv.asked (by omega)) ?_).mono ?_
  · rw [hS.openS, hS.readT]; omega
  · rintro e W' ⟨ht, hR⟩
    rw [hE.1, if_pos rfl, hE.2] at hR
    rw [hS.openS] at ht
    obtain ⟨rb, tv, he, hlo, hB, hO⟩ := hR
    exact ⟨rb, tv, he, ⟨h.turned hL ht, Nat.le_trans h.size hlo, hB, hO.lower h.size⟩, Keeps.touch hD ht.1⟩
end Go.Proofs.YtamdhaoglapnnaaGreatDoor
end

section
/- What apply keeps, in plain words. -/
namespace Go.Proofs.YtamdhaoglapnnaaGreatDoor

structure Fine (T : Tab) : Prop where
  sorted : sorted T
  ok : ∀ b ∈ T, bOk b
  dig : tOk T
theorem Fine.may {T : Tab} (h : Fine T) (hl : T.length ≤ 32) : mayE T = 0 := (mayE_zero T).2 ⟨hl, h.ok, h.sorted⟩
theorem Fine.of {T : Tab} (hm : mayE T = 0) (hh : tOk T) : Fine T := ⟨((mayE_zero T).1 hm).2.2, ((mayE_zero T).1 hm).2.1, hh⟩
theorem headsE_len {l : List Str} (h : headsE l = 0) : l.length ≤ 8 := by
  unfold headsE at h
  split at h
  · cases h
  · omega
theorem nmOk_len {s : Str} (h : nmOk s = true) : s.length ≤ 24 := by
  simp only [nmOk, Bool.and_eq_true, decide_eq_true_eq] at h
  exact h.2
theorem tfit_of {T : Tab} (hm : mayE T = 0) (hh : tOk T) : TFit T := by
  have h := (mayE_zero T).1 hm
  refine ⟨by have := h.1; omega, fun b hb => ?_⟩
  have hb2 := h.2.1 b hb
  have h1 := nmOk_len hb2.1
  have h2 := headsE_len hb2.2.2
  exact ⟨by omega, ⟨by omega, hh b hb⟩⟩
theorem wrongs_ok {l : Tab} : ∀ (C ahead : List Chg), wrongsE l ahead C = 0 → ∀ c ∈ C, nmOk c.name = true ∧ headsE c.new = 0
  | [], _, _, c, h => by cases h
  | x :: r, ahead, h, c, hc => by
    unfold wrongsE at h
    by_cases hx : wrongE l ahead x = 0
    · rw [if_pos hx] at h
      rcases List.mem_cons.1 hc with rfl | hc
      · unfold wrongE at hx
        by_cases hn : nmOk c.name = true
        · rw [if_pos hn] at hx
          by_cases ha : (ahead.any fun x => x.name == c.name) = true
          · rw [if_pos ha] at hx; cases hx
          · rw [if_neg ha] at hx
            by_cases hh : headsE c.new = 0
            · exact ⟨hn, hh⟩
            · rw [if_neg hh] at hx; exact absurd hx hh
        · rw [if_neg hn] at hx; cases hx
      · exact wrongs_ok r _ h c hc
    · rw [if_neg hx] at h; exact absurd h hx
theorem Fine.step {T : Tab} (h : Fine T) {c : Chg} (hn : nmOk c.name = true) (hh : headsE c.new = 0) (hd : hOk c.new) : Fine (stepT T c) :=
  ⟨sorted_step h.sorted c, fun b hb => by
    rcases step_mem hb with hb | ⟨rfl, hne⟩
    · exact h.ok b hb
    · exact ⟨hn, hne, hh⟩, fun b hb => by
    rcases step_mem hb with hb | ⟨rfl, _⟩
    · exact h.dig b hb
    · exact hd⟩
theorem Fine.steps : ∀ (C : List Chg) {T : Tab}, Fine T → (∀ c ∈ C, nmOk c.name = true ∧ headsE c.new = 0) → cOk C → Fine (C.foldl stepT T)
  | [], _, h, _, _ => h
  | c :: r, _, h, hc, hd => Fine.steps r (h.step (hc c (by simp)).1 (hc c (by simp)).2 (hd c (by simp)).2) (fun x hx => hc x (by simp [hx])) (fun x hx => hd x (by simp [hx]))
theorem applyE_may {T : Tab} {C : List Chg} (h : applyE T C = 0) : mayE T = 0 := by
  unfold applyE at h
  by_cases hm : mayE T = 0
  · exact hm
  · rw [if_neg hm] at h; exact absurd h hm
/-- What is applied may be. -/
theorem apply_may {T : Tab} {C : List Chg} (h : applyE T C = 0) (hh : tOk T) (hd : cOk C) : mayE (applyT T C) = 0 ∧ tOk (applyT T C) := by
  have hm := applyE_may h
  have hT : applyT T C = putsT T C := by unfold applyT; rw [if_pos h]
  unfold applyE at h
  rw [if_pos hm] at h
  by_cases h1 : 32 < C.length
  · rw [if_pos h1] at h; cases h
  rw [if_neg h1] at h
  by_cases h2 : wrongsE T [] C = 0
  · rw [if_pos h2] at h
    by_cases h3 : 32 < (putsT T C).length
    · rw [if_pos h3] at h; cases h
    have hF := Fine.of hm hh
    have := hF.steps C (wrongs_ok C [] h2) hd
    rw [foldl_step C T hF.sorted] at this
    rw [hT]
    exact ⟨this.may (by omega), this.dig⟩
  · rw [if_neg h2] at h; exact absurd h h2
end Go.Proofs.YtamdhaoglapnnaaGreatDoor
end

section
/- Changes, and a crash, in the middle of a law. -/
namespace Go.Proofs.YtamdhaoglapnnaaGreatDoor
open Go.RowKit

theorem TextOf.tok {X : Option Str} {T : Tab} (h : TextOf X T) : mayE T = 0 ∧ tOk T := by
  rcases h with ⟨_, rfl⟩ | ⟨_, hm, hh⟩
  · exact ⟨rfl, fun b hb => by cases hb⟩
  · exact ⟨hm, hh⟩
theorem Ref.turned {w0 : World} {base rb g : Nat} {v : Value} {S S' : DS} {T : Tab} {W W' : World} {bn bs : Nat} {pv : Value} (h : Ref w0 base rb g v S T W) (hD : DiskAt W g bn bs pv S) (hL : ∀ i ∈ foot g bn bs pv, base ≤ i) (ht : Turned W (foot g bn bs pv) g S' W') : Ref w0 base rb g v S' T W' := by
  have hf := foot_tags hD
  refine ⟨h.toSes.turned hL ht, h.low, h.ref.touch ht.1 (hD.tag h.ref (by decide) (by decide)), h.own.touch ht.1 (fun i hi t cs hB => ?_)⟩
  rcases hf i hi t cs hB with rfl | rfl <;> exact ⟨by decide, by decide⟩
theorem Live.crash_eq {S : DS} {X : Option Str} (h : Live S X) (l : List Int) : S.crash l = S := by
  have e : S.crash l = { S with now := S.sure, sure := S.sure, pend := [], fuse := -1, off := false } := by
    unfold DS.crash; rw [h.pend]; rfl
  rw [e]
  obtain ⟨a, b, c, d, f, g⟩ := S
  have h1 := h.off; have h2 := h.fuse; have h3 := h.sure; have h4 := h.pend
  simp only at h1 h2 h3 h4
  subst h1; subst h2; subst h3; subst h4
  rfl
def DidTo (w0 : World) (base rb g : Nat) (v : Value) (S : DS) (T : Tab) (C : List Chg) (W : World) (e : Ending) (W' : World) : Prop :=
  e = .returned (.int .i64 (applyE T C)) ∧ Keeps W W' ∧ if applyE T C = 0 then ∃ v' S' X', Ref w0 base rb g v' S' (applyT T C) W' ∧ Live S' X' ∧ TextOf X' (applyT T C) ∧ S'.room = S.room else Ref w0 base rb g v S T W'
theorem do_live {w0 : World} {base rb g : Nat} {v u : Value} {S : DS} {T : Tab} {W : World} {X : Option Str} {C : List Chg} {ok' : Nat → Prop} (h : Ref w0 base rb g v S T W) (hS : Live S X) (hX : TextOf X T) (hroom : 131072 ≤ S.room)
    (h' : ChsIs W ok' u C) (hc : CFit C) : Calls Tryz.prog 180 #[.pointer (some ⟨rb, 0, none⟩), u] W (DidTo w0 base rb g v S T C W) := by
  obtain ⟨L, ⟨bn, bs, pv, hD, rfl⟩, hL⟩ := h.disk
  obtain ⟨hm, hh⟩ := hX.tok
  have hf := tfit_of hm hh
  have hd : cOk C := fun c hcm => ⟨(hc.ok c hcm).old.ok, (hc.ok c hcm).new.ok⟩
  by_cases hE : applyE T C ≠ 0 ∨ C = []
  · refine (do_early rb g v u T C _ ok' W h.ref h.own.tab hf h' hc hE).mono ?_
    rintro e W' ⟨he, hb⟩
    refine ⟨he, Keeps.below hb, ?_⟩
    have hR := h.below hb
    by_cases h0 : applyE T C = 0
    · rw [if_pos h0]
      have hC : C = [] := hE.resolve_left (fun hn => hn h0)
      have hT : applyT T C = T := by unfold applyT; rw [if_pos h0, hC]; rfl
      rw [hT]
      exact ⟨v, S, X, hR, hS, hX, rfl⟩
    · rw [if_neg h0]; exact hR
  · have hE0 : applyE T C = 0 := Decidable.byContradiction (fun hn => hE (.inl hn))
    have hC : C ≠ [] := fun hn => hE (.inr hn)
    obtain ⟨hm2, hh2⟩ := apply_may hE0 hh hd
    have hl1 := print_small hm2 hh2
    have hl2 := hX.len
    have hP : printT (applyT T C) = printS (applyT T C) := by unfold printT; rw [if_pos hm2]
    have hch : ChainOk S (printT (applyT T C)) := hS.chain (by rw [hP]; omega)
    refine (do_late rb g bn bs pv v u S T C _ ok' W h.ref h.own.tab hf h' hc hE0 hC (tfit_of hm2 hh2) (by rw [hP]; omega) hD hch.a0 hch.a1 hch.a2 hch.a3).mono ?_
    rintro e W' ⟨he, ht, ⟨L', hD', hL'⟩, nv, hB, hO⟩
    rw [hch.e] at he hB hO
    rw [hch.s] at hD'
    rw [if_pos rfl] at hO
    refine ⟨by rw [he, hE0], fun k t cs hBk a b c => hBk.touch ht (fun hm => ?_), ?_⟩
    · rcases List.mem_cons.1 hm with rfl | hm
      · exact a (hBk.unique h.ref)
      · exact hD.tag hBk b c hm
    rw [if_pos hE0]
    have hb : ∀ i ∈ rb :: foot g bn bs pv, base ≤ i := fun i hi => by
      rcases List.mem_cons.1 hi with rfl | hi
      · exact h.low
      · exact hL i hi
    refine ⟨nv, Live.after S (printT (applyT T C)), some (printT (applyT T C)), ⟨⟨h.bel.trans (ht.below h.size hb), Nat.le_trans h.size ht.size, L', hD', fun i hi => ?_⟩, h.low, hB, hO.lower h.size⟩, hch.live, .inr ⟨by rw [hP], hm2, hh2⟩, rfl⟩
    rcases hL' i hi with h1 | h1
    · exact hL i h1
    · exact Nat.le_trans h.size h1
end Go.Proofs.YtamdhaoglapnnaaGreatDoor
end
end

section
/- Joined: RfGa, RfAl, RfNb, RfW2. -/
section
/- The walks of Refs.All and Refs.Get. -/
namespace Go.Proofs.YtamdhaoglapnnaaGreatDoor
open Go.RowKit

set_option maxRecDepth 100000 in
set_option maxHeartbeats 4000000 in
theorem all_nil (w : World) : Calls Tryz.prog 61 #[.pointer none] w fun e w' => e = .returned (.slice none 0 0) ∧ w' = w := by
  go_enter Tryz.func61, Tryz.ntmps61
  go_wp2
  go_ret
  exact ⟨rfl, rfl⟩
set_option maxRecDepth 100000 in
set_option maxHeartbeats 4000000 in
theorem all_any (rb : Nat) (d br v : Value) (T : Tab) (ok : Nat → Prop) (w : World) (hB : Blk w rb 147 [d, v, br]) (h : TabIs w ok v T) (hf : TFit T) :
    Calls Tryz.prog 61 #[.pointer (some ⟨rb, 0, none⟩)] w (OwnTo w T) := by
  obtain ⟨A, c, rfl, hc⟩ := h.form
  have ho := Lib.hid (own_any T _ ok w h hf)
  have h1 := hB.cell 1
  clear h
  go_enter Tryz.func61, Tryz.ntmps61
  go_wp2_with (first
    | (go_at_call 104; (with_reducible refine ho.out.mono ?_); rintro e w2 ⟨u, rfl, hu, hb⟩))
  go_ret
  exact ⟨_, rfl, hu, hb⟩
set_option maxRecDepth 100000 in
set_option maxHeartbeats 4000000 in
theorem get_nil (n : Str) (w : World) : Calls Tryz.prog 108 #[.pointer none, strV n] w fun e w' => e = .returned (.tuple #[.slice none 0 0, .bool false]) ∧ w' = w := by
  go_enter Tryz.func108, Tryz.ntmps108
  go_wp2
  refine bodyPost_ret (results_tmp2 rfl _ _ _) rfl ?_
  exact ⟨rfl, rfl⟩
def GetTo (w : World) (l : List Str) (e : Ending) (w' : World) : Prop := ∃ u, e = .returned (.tuple #[u, .bool (decide (l ≠ []))]) ∧ HdIs w' (DgAt w' w.heap.size) u l ∧ Below w.heap.size w w'
set_option maxRecDepth 100000 in
set_option maxHeartbeats 4000000 in
theorem get_any (rb : Nat) (d br v : Value) (T : Tab) (n : Str) (ok : Nat → Prop) (w : World) (hB : Blk w rb 147 [d, v, br]) (h : TabIs w ok v T) (hf : TFit T) (hs : sorted T) :
    Calls Tryz.prog 108 #[.pointer (some ⟨rb, 0, none⟩), strV n] w (GetTo w (getT T n)) := by
  obtain ⟨u, hu, hst⟩ := stands_any T v n ok w h hf.len hs
  have hst := Lib.hid (hst w (Below.refl _ _))
  have hcl := Lib.hid (fun W (hb : Below w.heap.size w W) => clone_any (getT T n) u ok W (hu.stayB hb) (getT_fit hf n))
  obtain ⟨A, c, rfl, hc⟩ := h.form
  obtain ⟨UA, uc, rfl, huc, _⟩ := id hu
  have h1 := hB.cell 1
  obtain ⟨l, hl⟩ : ∃ l, l = getT T n := ⟨_, rfl⟩
  rw [← hl] at hst hcl ⊢
  unfold strV at hst ⊢
  clear hu h hl
  go_enter Tryz.func108, Tryz.ntmps108
  go_wp2_with (first
    | (go_at_call 173; (with_reducible refine hst.out.mono ?_); rintro e w2 ⟨rfl, hb2⟩)
    | (go_at_call 168; (with_reducible refine (hcl.out _ hb2).mono ?_); rintro e w3 ⟨x, rfl, hx, hb3⟩; obtain ⟨XA, xc, rfl, _, _⟩ := id hx))
  refine bodyPost_ret (results_tmp2 rfl _ _ _) rfl ?_
  refine ⟨_, ?_, hx.lower hb2.size, hb2.trans (hb3.mono hb2.size)⟩
  have : decide (0 < l.length) = decide (l ≠ []) := by cases l <;> simp
  rw [← this]
  rfl
end Go.Proofs.YtamdhaoglapnnaaGreatDoor
end

section
/- The walk of alive: a name that is there behind a crash. -/
namespace Go.Proofs.YtamdhaoglapnnaaGreatDoor
open Go.RowKit

def d7 : Str := 7 :: List.replicate 31 0
def mainN : Str := [109, 97, 105, 110]
def c0 : Chg := ⟨mainN, [], [d7]⟩
def T1 : Tab := [⟨mainN, [d7]⟩]
theorem a1 : applyE [] [c0] = 0 := by decide
theorem a2 : applyT [] [c0] = T1 := by unfold applyT; rw [if_pos a1]; rfl
theorem a3 : applyE T1 [c0] = 12 := by decide
theorem a4 : getT T1 mainN = [d7] := by decide
theorem c0_fit : CFit [c0] := ⟨by simp, fun c hc => by
  simp only [List.mem_singleton] at hc
  subst hc
  exact ⟨by decide, ⟨by decide, fun d hd => by cases hd⟩, ⟨by decide, fun d hd => by
    have : d = d7 := by simpa [c0] using hd
    subst this; rfl⟩⟩⟩
theorem h7_fit : HFit [d7] := ⟨by decide, fun d hd => by
    have : d = d7 := by simpa using hd
    subst this; rfl⟩
theorem build7 (w : World) : (Instr.build 115 #[(0, .int .u8 7)]).run Tryz.prog w = .ok (.agg (d7.map B).toArray) w := by kernel_rfl
theorem Ref.alloc {w0 : World} {base rb g : Nat} {v : Value} {S : DS} {T : Tab} {W : World} (h : Ref w0 base rb g v S T W) (o : Obj) : Ref w0 base rb g v S T (W.alloc o) := h.below ((Below.refl _ _).alloc (Nat.le_refl _) o)
theorem hd7 {W : World} {hb : Nat} (hH : Blk W hb 115 (d7.map B)) : HdIs W (fun _ => True) (.slice (some ⟨hb, 0, none⟩) 1 1) [d7] :=
  ⟨_, 1, rfl, Nat.le_refl _, Rd.of_blk (r := []) hH (by simp [hCells]) trivial⟩
theorem chs0 {W : World} {cb hb : Nat} (hC : Blk W cb 180 [.string ⟨#[109, 97, 105, 110]⟩, .slice none 0 0, .slice (some ⟨hb, 0, none⟩) 1 1]) (hH : Blk W hb 115 (d7.map B)) :
    ChsIs W (fun _ => True) (.slice (some ⟨cb, 0, none⟩) 1 1) [c0] := by
  refine ⟨_, 1, [(.slice none 0 0, .slice (some ⟨hb, 0, none⟩) 1 1)], rfl, rfl, Nat.le_refl _, Rd.of_blk (r := []) hC rfl trivial, fun k b u h1 h2 => ?_⟩
  match k, h1, h2 with
  | 0, h1, h2 =>
    simp only [List.getElem?_cons_zero, Option.some.injEq] at h1 h2
    subst h1; subst h2
    exact ⟨HdIs.nil, hd7 hH⟩
  | k + 1, h1, _ => simp at h1
theorem t1_may : mayE T1 = 0 ∧ tOk T1 := by
  have := apply_may a1 (fun b hb => by cases hb) (fun c hc => ⟨(c0_fit.ok c hc).old.ok, (c0_fit.ok c hc).new.ok⟩)
  rw [a2] at this
  exact this
theorem blk7 (w : World) : Blk (w.alloc (.cells #[.int .u8 7, .int .u8 0, .int .u8 0, .int .u8 0, .int .u8 0, .int .u8 0, .int .u8 0, .int .u8 0, .int .u8 0, .int .u8 0, .int .u8 0, .int .u8 0, .int .u8 0, .int .u8 0, .int .u8 0, .int .u8 0, .int .u8 0, .int .u8 0, .int .u8 0, .int .u8 0, .int .u8 0, .int .u8 0, .int .u8 0, .int .u8 0, .int .u8 0, .int .u8 0, .int .u8 0, .int .u8 0, .int .u8 0, .int .u8 0, .int .u8 0, .int .u8 0] 115)) w.heap.size 115 (d7.map B) := Blk.new_at (cs := d7.map B) rfl
theorem do1 {w0 : World} {base rb g cb hb : Nat} {v : Value} {W : World} (h : Ref w0 base rb g v (DS.new 1048576) [] W) (hC : Blk W cb 180 [.string ⟨#[109, 97, 105, 110]⟩, .slice none 0 0, .slice (some ⟨hb, 0, none⟩) 1 1]) (hH : Blk W hb 115 (d7.map B)) :
    Calls Tryz.prog 180 #[.pointer (some ⟨rb, 0, none⟩), .slice (some ⟨cb, 0, none⟩) 1 1] W fun e W' => e = .returned (.int .i64 0) ∧ Blk W' hb 115 (d7.map B) ∧ ∃ v' S' X', Ref w0 base rb g v' S' T1 W' ∧ Live S' X' ∧ TextOf X' T1 ∧ S'.room = 1048576 := by
  refine (do_live h (Live.new (by omega) (by omega)) (.inl ⟨rfl, rfl⟩) (by decide) (chs0 hC hH) c0_fit).mono ?_
  rintro e W' ⟨he, hk, hd⟩
  rw [a1] at he hd
  rw [if_pos rfl, a2] at hd
  exact ⟨he, hk _ _ _ hH (by decide) (by decide) (by decide), hd⟩
theorem do2 {w0 : World} {base rb g cb hb : Nat} {v : Value} {W : World} {S : DS} {X : Option Str} (h : Ref w0 base rb g v S T1 W) (hS : Live S X) (hX : TextOf X T1) (hr : S.room = 1048576) (hC : Blk W cb 180 [.string ⟨#[109, 97, 105, 110]⟩, .slice none 0 0, .slice (some ⟨hb, 0, none⟩) 1 1]) (hH : Blk W hb 115 (d7.map B)) :
    Calls Tryz.prog 180 #[.pointer (some ⟨rb, 0, none⟩), .slice (some ⟨cb, 0, none⟩) 1 1] W fun e W' => e = .returned (.int .i64 12) ∧ Ref w0 base rb g v S T1 W' := by
  refine (do_live h hS hX (by omega) (chs0 hC hH) c0_fit).mono ?_
  rintro e W' ⟨he, hk, hd⟩
  rw [a3] at he hd
  exact ⟨he, hd⟩
theorem get1 {w0 : World} {base rb g : Nat} {v : Value} {W : World} {S : DS} (h : Ref w0 base rb g v S T1 W) :
    Calls Tryz.prog 108 #[.pointer (some ⟨rb, 0, none⟩), .string ⟨#[109, 97, 105, 110]⟩] W fun e W' => ∃ A c, e = .returned (.tuple #[.slice A 1 c, .bool true]) ∧ HdIs W' (DgAt W' W.heap.size) (.slice A 1 c) [d7] ∧ Below W.heap.size W W' := by
  refine (get_any rb _ _ v T1 mainN _ W h.ref h.own.tab (tfit_of t1_may.1 t1_may.2) ((mayE_zero T1).1 t1_may.1).2.2).mono ?_
  rintro e W' ⟨u, he, hu, hb⟩
  rw [a4] at he hu
  obtain ⟨A, c, rfl, _, _⟩ := id hu
  exact ⟨A, c, he, hu, hb⟩
theorem open1 {w0 : World} {base g : Nat} {W : World} (h : Ses w0 base g (DS.new 1048576) W) :
    Calls Tryz.prog 55 #[.pointer (some ⟨g, 0, none⟩)] W fun e W' => ∃ rb v, e = .returned (.tuple #[.pointer (some ⟨rb, 0, none⟩), .int .i64 0]) ∧ Ref w0 base rb g v (DS.new 1048576) [] W' :=
  (open_live h (Live.new (by omega) (by omega)) (.inl ⟨rfl, rfl⟩)).mono fun e W' ⟨rb, v, h1, h2, _⟩ => ⟨rb, v, h1, h2⟩
theorem open2 {w0 : World} {base g hb rb0 : Nat} {W : World} {S : DS} {X : Option Str} {T : Tab} {v0 : Value} (h : Ref w0 base rb0 g v0 S T W) (hS : Live S X) (hX : TextOf X T) (hH : Blk W hb 115 (d7.map B)) :
    Calls Tryz.prog 55 #[.pointer (some ⟨g, 0, none⟩)] W fun e W' => ∃ rb v, e = .returned (.tuple #[.pointer (some ⟨rb, 0, none⟩), .int .i64 0]) ∧ Ref w0 base rb g v S T W' ∧ Blk W' hb 115 (d7.map B) :=
  (open_live h.toSes hS hX).mono fun e W' ⟨rb, v, h1, h2, h3⟩ => ⟨rb, v, h1, h2, h3 _ _ _ hH (by decide) (by decide) (by decide)⟩
end Go.Proofs.YtamdhaoglapnnaaGreatDoor
end

section
/- Nobody's disk, and a disk that nobody made. -/
namespace Go.Proofs.YtamdhaoglapnnaaGreatDoor
open Go.RowKit
set_option maxRecDepth 100000 in
set_option maxHeartbeats 4000000 in
theorem remove_nil (w : World) : Calls Tryz.prog 56 #[.pointer none, .string ⟨#[114, 101, 102, 115, 46, 110, 101, 119]⟩] w fun e w' => e = .returned (.int .i64 2) ∧ Below w.heap.size w w' := by
  have hb := Below.refl w.heap.size w
  go_enter Tryz.func56, Tryz.ntmps56
  go_wp2
  go_ret
  exact ⟨rfl, hb.alloc (Nat.le_refl _) _⟩
set_option maxRecDepth 100000 in
set_option maxHeartbeats 4000000 in
theorem remove_zero (g : Nat) (x1 x2 x3 x4 x5 : Value) (w : World) (hB : Blk w g 90 [.map none, x1, x2, x3, x4, x5]) : Calls Tryz.prog 56 #[.pointer (some ⟨g, 0, none⟩), .string ⟨#[114, 101, 102, 115, 46, 110, 101, 119]⟩] w fun e w' => e = .returned (.int .i64 2) ∧ Below w.heap.size w w' := by
  have hb := Below.refl w.heap.size w
  have h0 := (hB.alloc (Obj.cells #[Value.string ⟨#[114, 101, 102, 115, 46, 110, 101, 119]⟩] 9)).cell 0
  have h1 := hB.cell 0
  have hq := fun w => run_neq_map_nil (P := Tryz.prog) w 87 _ _ none Tryz.underlying87
  go_enter Tryz.func56, Tryz.ntmps56
  go_wp2
  go_ret
  exact ⟨rfl, hb.alloc (Nat.le_refl _) _⟩
set_option maxRecDepth 100000 in
set_option maxHeartbeats 4000000 in
theorem open_bad (d : Value) (w : World) (hr : Calls Tryz.prog 56 #[d, .string ⟨#[114, 101, 102, 115, 46, 110, 101, 119]⟩] w fun e w' => e = .returned (.int .i64 2) ∧ Below w.heap.size w w') :
    Calls Tryz.prog 55 #[d] w fun e w' => e = .returned (.tuple #[.pointer none, .int .i64 2]) ∧ Below w.heap.size w w' := by
  replace hr := Lib.hid hr
  go_enter Tryz.func55, Tryz.ntmps55
  go_wp2_with (first
    | (go_at_call 56; (with_reducible refine hr.out.mono ?_); rintro e w2 ⟨rfl, hb2⟩))
  refine bodyPost_ret (results_tmp2 rfl _ _ _) rfl ?_
  exact ⟨rfl, hb2⟩
end Go.Proofs.YtamdhaoglapnnaaGreatDoor
end

section
/- The walk of the law RefsNobody. -/
namespace Go.Proofs.YtamdhaoglapnnaaGreatDoor
open Go.RowKit

end Go.Proofs.YtamdhaoglapnnaaGreatDoor
end
end
end
