/- What writing calls keep, in plain words: for a disk of any user's. -/
import Derived.Test.YtlenmkemjaaaoaaDoorDk
namespace Go.Proofs.YtlenmkemjaaaoaaDoor
open Go.Maps

def KeysOk (D : DM) : Prop := ∀ k, fHas D k = true → nameB k = true
def replay (os : List DOp) (D : DM) : DM := os.foldl (fun D o => o.act 1 D) D
def DOp.named : DOp → Prop
  | .write s _ => nameB s = true
  | .remove _ => True
  | .rename _ t => nameB t = true
/-- What a disk is at any time before a crash. -/
structure Inv (S : DS) (n : Nat) : Prop extends S.Good where
  keys : KeysOk S.now
  keys' : KeysOk S.sure
  opn : ∀ o ∈ S.pend, o.named
  len : S.pend.length ≤ n
  re : replay S.pend S.sure = S.now
theorem KeysOk.put {D : DM} (h : KeysOk D) {k t : List UInt8} (hk : nameB k = true) : KeysOk (fPut D k t) := fun q hq => by
  by_cases e : q = k
  · rw [e]; exact hk
  · rw [fHas_put_other e] at hq; exact h q hq
theorem KeysOk.del {D : DM} (h : KeysOk D) {k : List UInt8} : KeysOk (fDel D k) := fun q hq => by
  by_cases e : q = k
  · rw [e, fHas_del_same] at hq; cases hq
  · rw [fHas_del_other e] at hq; exact h q hq
theorem KeysOk.act {D : DM} (h : KeysOk D) {o : DOp} (ho : o.named) (k : Int) : KeysOk (o.act k D) := by
  cases o with
  | write s t => exact h.put ho
  | remove s => exact h.del
  | rename s t =>
    simp only [DOp.act]
    split
    · exact (h.del).put ho
    · exact h
theorem Fit.tick {S : DS} (h : S.Fit) : S.tick.Fit := by
  refine ⟨by rw [tick_now]; exact h.now, by rw [tick_sure]; exact h.sure, by rw [tick_pend]; exact h.ops, by rw [tick_room]; exact h.room0, by rw [tick_room]; exact h.room1, ?_, ?_⟩
  · unfold DS.tick; split
    · exact h.fuse0
    · show -1 ≤ max (S.fuse - 1) (-1); omega
  · unfold DS.tick; split
    · exact h.fuse1
    · show max (S.fuse - 1) (-1) ≤ 1000000; have := h.fuse1; omega
theorem Inv.tick {S : DS} {n : Nat} (h : Inv S n) : Inv S.tick n := by
  refine ⟨⟨Fit.tick h.toFit, ?_, ?_, ?_⟩, ?_, ?_, ?_, ?_, ?_⟩
  · rw [tick_now, tick_room]; exact h.sum
  · rw [tick_now]; exact h.few
  · rw [tick_sure]; exact h.few'
  · rw [tick_now]; exact h.keys
  · rw [tick_sure]; exact h.keys'
  · rw [tick_pend]; exact h.opn
  · rw [tick_pend]; exact h.len
  · rw [tick_pend, tick_sure, tick_now]; exact h.re
theorem Inv.mono {S : DS} {n m : Nat} (h : Inv S n) (hm : n ≤ m) : Inv S m := ⟨h.toGood, h.keys, h.keys', h.opn, Nat.le_trans h.len hm, h.re⟩
theorem Inv.does {S : DS} {n : Nat} (h : Inv S n) (o : DOp) (ho : o.ok) (hn : o.named) (hs : (fSum (o.act 1 S.now) : Int) ≤ S.room) (hf : fLen (o.act 1 S.now) ≤ 600) : Inv (S.does o) (n + 1) := by
  refine ⟨⟨⟨o.act_str h.now 1, h.sure, ?_, h.room0, h.room1, h.fuse0, h.fuse1⟩, hs, hf, h.few'⟩, h.keys.act hn 1, h.keys', ?_, ?_, ?_⟩
  · intro p hp
    rcases List.mem_append.1 hp with hp | hp
    · exact h.ops p hp
    · rw [List.mem_singleton.1 hp]; exact ho
  · intro p hp
    rcases List.mem_append.1 hp with hp | hp
    · exact h.opn p hp
    · rw [List.mem_singleton.1 hp]; exact hn
  · show (S.pend ++ [o]).length ≤ n + 1
    have := h.len
    simp; omega
  · show replay (S.pend ++ [o]) S.sure = o.act 1 S.now
    have := h.re
    unfold replay at this ⊢
    rw [List.foldl_append, this]
    rfl
theorem nameB_80 {s : List UInt8} (h : nameB s = true) : s.length ≤ 80 := by
  simp [nameB] at h; exact h.2
theorem Inv.done {S : DS} {n : Nat} (h : Inv S n) (c : Call) (hc : c.err S = 0) : Inv (c.done S) (n + 1) := by
  cases c with
  | write s t =>
    simp only [Call.err] at hc
    by_cases hs : nameB s = true
    · rw [if_pos hs] at hc
      by_cases hf : fullB S s t = true
      · rw [if_pos hf] at hc; cases hc
      · have hff : fullB S s t = false := by simpa using hf
        unfold fullB at hff
        rw [Bool.or_eq_false_iff] at hff
        obtain ⟨f1, f2⟩ := hff
        have f1' : ¬ (S.room - (t.length : Int) < (fSum S.now : Int) - ((fS S.now s).length : Int)) := by simpa using f1
        have f2' : ¬ (600 < fLen S.now + (if fHas S.now s then 0 else 1)) := of_decide_eq_false f2
        have hcut : cutT t 1 = t := by simp [cutT]
        have hx := fSum_put (k := s) (t := t) h.now
        have hd := fSum_del (k := s) h.now
        have hr := h.room1
        refine h.does _ ⟨nameB_80 hs, by omega⟩ hs ?_ ?_
        · show (fSum (fPut S.now s (cutT t 1)) : Int) ≤ S.room
          rw [hcut]; omega
        · show fLen (fPut S.now s (cutT t 1)) ≤ 600
          rw [fLen_put h.now]
          split <;> rename_i hh
          · exact h.few
          · rw [if_neg hh] at f2'; omega
    · rw [if_neg hs] at hc; cases hc
  | remove s =>
    simp only [Call.err] at hc
    by_cases hs : nameB s = true
    · have hd := fSum_del (k := s) h.now
      have hsum := h.sum
      refine h.does _ (nameB_80 hs) trivial ?_ ?_
      · show (fSum (fDel S.now s) : Int) ≤ S.room
        omega
      · show fLen (fDel S.now s) ≤ 600
        exact Nat.le_trans (fLen_del_le h.now) h.few
    · rw [if_neg hs] at hc; cases hc
  | rename s t =>
    simp only [Call.err] at hc
    by_cases hs : (nameB s && nameB t) = true
    · rw [if_pos hs] at hc
      by_cases hh : fHas S.now s = true
      · rw [Bool.and_eq_true] at hs
        have hd := fSum_del (k := s) h.now
        have hp := fSum_put (k := t) (t := fS S.now s) (h.now.del s)
        have hsum := h.sum
        have ha : (DOp.rename s t).act 1 S.now = fPut (fDel S.now s) t (fS S.now s) := by simp [DOp.act, hh]
        refine h.does _ ⟨nameB_80 hs.1, nameB_80 hs.2⟩ hs.2 ?_ ?_
        · rw [ha]; omega
        · rw [ha]; exact Nat.le_trans (rename_len h.now s t hh) h.few
      · rw [if_neg hh] at hc; cases hc
    · rw [if_neg hs] at hc; cases hc
  | sync =>
    refine ⟨⟨⟨h.now, h.now, by simp [Call.done], h.room0, h.room1, h.fuse0, h.fuse1⟩, h.sum, h.few, h.few⟩, h.keys, h.keys, by simp [Call.done], by simp [Call.done], rfl⟩
theorem Inv.turn {S : DS} {n : Nat} (h : Inv S n) (c : Call) : Inv (c.turn S) (n + 1) := by
  unfold Call.turn
  split
  · exact h.tick.mono (by omega)
  · split
    · rename_i h2
      exact h.tick.done c h2
    · exact h.tick.mono (by omega)
theorem Inv.new {room : Int} (h0 : 0 ≤ room) (h1 : room ≤ 16777216) : Inv (DS.new room) 0 := by
  refine ⟨⟨⟨StrMap.nil, StrMap.nil, by simp [DS.new], h0, h1, by simp [DS.new], by simp [DS.new]⟩, ?_, ?_, ?_⟩, ?_, ?_, by simp [DS.new], by simp [DS.new], rfl⟩
  · show ((fSum fNil : Nat) : Int) ≤ room
    simp [fSum, fNil, fEs]; exact h0
  · show fLen fNil ≤ 600
    simp [fLen, fNil, Maps.size]
  · show fLen fNil ≤ 600
    simp [fLen, fNil, Maps.size]
  · intro k hk
    have : fHas fNil k = true := hk
    simp [fHas, fNil, Maps.has] at this
  · intro k hk
    have : fHas fNil k = true := hk
    simp [fHas, fNil, Maps.has] at this
theorem Inv.asked {S : DS} {n : Nat} (h : Inv S n) (hn : n < 4398046511104) : Asked S := ⟨h.toGood, Nat.lt_of_le_of_lt h.len hn⟩
/-- Without a fuse the power stays. -/
theorem turn_live {S : DS} (c : Call) (ho : S.off = false) (hf : S.fuse = -1) : (c.turn S).off = false ∧ (c.turn S).fuse = -1 := by
  have ht : S.tick = { S with off := false, fuse := -1 } := by simp [DS.tick, ho, hf]; rfl
  have hd : ∀ c : Call, ∀ T : DS, (c.done T).off = T.off ∧ (c.done T).fuse = T.fuse := fun c T => by cases c <;> exact ⟨rfl, rfl⟩
  unfold Call.turn
  rw [ht]
  split
  · rename_i h; cases h
  · split
    · exact hd c _
    · exact ⟨rfl, rfl⟩
theorem turn_room (c : Call) (S : DS) : (c.turn S).room = S.room := by
  have hd : ∀ T : DS, (c.done T).room = T.room := fun T => by cases c <;> rfl
  unfold Call.turn
  split
  · exact tick_room S
  · split
    · rw [hd, tick_room]
    · exact tick_room S
theorem crashTo_nil : ∀ (os : List DOp) (D : DM), crashTo os [] D = D
  | [], _ => rfl
  | o :: os, D => by simp [crashTo, crashTo_nil os D]
theorem crashTo_ones : ∀ (os : List DOp) (n : Nat) (D : DM), os.length ≤ n → crashTo os (List.replicate n 1) D = replay os D
  | [], _, _, _ => rfl
  | o :: os, 0, _, h => by simp at h
  | o :: os, n + 1, D, h => by
    have ih := crashTo_ones os n (o.act 1 D) (by simp at h; omega)
    have e : crashTo (o :: os) (List.replicate (n + 1) 1) D = crashTo os (List.replicate n 1) (if (0 : Int) < 1 then o.act 1 D else D) := rfl
    rw [e, if_pos (by omega), ih]
    rfl
end Go.Proofs.YtlenmkemjaaaoaaDoor
