/- Joined: RfOp, RfDo. -/
import Derived.Test.YtlenmkemjaaaoaaDoorRjPa
import Derived.Test.YtlenmkemjaaaoaaDoorDkD
import Derived.Test.YtlenmkemjaaaoaaDoorDkE
import Derived.Test.YtlenmkemjaaaoaaDoorRjApp
section
/- The walk of refs.Open. -/
namespace Go.Proofs.YtlenmkemjaaaoaaDoor
open Go.RowKit

def nextN : Str := [114, 101, 102, 115, 46, 110, 101, 119]
def fileN : Str := [114, 101, 102, 115]
/-- The disk behind Open. -/
def openS (S : DS) : DS := (Call.remove nextN).turn S
def openE (S : DS) : Int :=
  if (Call.remove nextN).errno S = 15 then 15 else if (openS S).readE fileN = 5 then 0 else if (openS S).readE fileN = 0 then (if parseOk ((openS S).readT fileN) = true then 0 else 7) else (openS S).readE fileN
def openT (S : DS) : Tab := if (openS S).readE fileN = 0 then looseT ((openS S).readT fileN) else []
def OpenTo (w : World) (L : List Nat) (g : Nat) (S : DS) (e : Ending) (w' : World) : Prop :=
  Turned w L g (openS S) w' ∧ if openE S = 0 then ∃ rb tv, e = .returned (.tuple #[.pointer (some ⟨rb, 0, none⟩), .int .i64 0]) ∧ w.heap.size ≤ rb ∧ Blk w' rb 69 [.pointer (some ⟨g, 0, none⟩), tv, .bool false] ∧ OwnTab w' w.heap.size tv (openT S) else e = .returned (.tuple #[.pointer none, .int .i64 (openE S)])
theorem turned_below {w w2 w4 : World} {L : List Nat} {g bn bs : Nat} {v : Value} {S : DS} (ht : Touch L w w2) (hD : DiskAt w2 g bn bs v S) (hL : ∀ i ∈ foot g bn bs v, i ∈ L ∨ w.heap.size ≤ i) (hb : Below w2.heap.size w2 w4) : Turned w L g S w4 :=
  ⟨ht.trans (L' := []) (Touch.ofBelow hb) (by simp), _, ⟨bn, bs, v, hD.below hb, rfl⟩, hL⟩
theorem remove_cases (S : DS) : (Call.remove nextN).errno S = 0 ∨ (Call.remove nextN).errno S = 5 ∨ (Call.remove nextN).errno S = 15 := by
  have e : (Call.remove nextN).err S.tick = if fHas S.tick.now nextN = true then 0 else 5 := by
    show (if nameB nextN = true then (if fHas S.tick.now nextN = true then (0 : Int) else 5) else 11) = _
    rw [if_pos (by decide)]
  unfold Call.errno
  rw [e]
  split
  · exact .inr (.inr rfl)
  · split
    · exact .inl rfl
    · exact .inr (.inl rfl)
theorem readE_cases (S : DS) : S.readE fileN = 0 ∨ S.readE fileN = 5 ∨ S.readE fileN = 15 := by
  unfold DS.readE
  split
  · exact .inr (.inr rfl)
  · have : nameB fileN = true := by decide
    simp only [this, if_true]
    split
    · exact .inl rfl
    · exact .inr (.inl rfl)
set_option maxRecDepth 100000 in
set_option maxHeartbeats 8000000 in
theorem open_any (g bn bs : Nat) (v : Value) (S : DS) (w : World) (h : DiskAt w g bn bs v S) (hA : Asked S) (hlen : ((openS S).readT fileN).length ≤ 1073741824) :
    Calls Tryd.prog 26 #[.pointer (some ⟨g, 0, none⟩)] w (OpenTo w (foot g bn bs v) g S) := by
  have hrm : Hid (Calls Tryd.prog 57 #[.pointer (some ⟨g, 0, none⟩), .string ⟨#[114, 101, 102, 115, 46, 110, 101, 119]⟩] w fun e w' => e = .returned (.int .i64 ((Call.remove nextN).errno S)) ∧ Turned w (foot g bn bs v) g (openS S) w') := Lib.hid (remove_any g bn bs v S nextN w h hA (by decide))
  obtain ⟨e1, he1⟩ : ∃ e1, e1 = (Call.remove nextN).errno S := ⟨_, rfl⟩
  obtain ⟨e2, he2⟩ : ∃ e2, e2 = (openS S).readE fileN := ⟨_, rfl⟩
  obtain ⟨t, ht⟩ : ∃ t, t = (openS S).readT fileN := ⟨_, rfl⟩
  have c1 := remove_cases S
  have c2 := readE_cases (openS S)
  rw [← he1] at hrm c1
  rw [← he2] at c2
  rw [← ht] at hlen
  have hrd : Hid (∀ bn2 bs2 v2 w2, DiskAt w2 g bn2 bs2 v2 (openS S) → Calls Tryd.prog 58 #[.pointer (some ⟨g, 0, none⟩), .string ⟨#[114, 101, 102, 115]⟩] w2 fun e w' => e = .returned (.tuple #[.string ⟨t.toArray⟩, .int .i64 e2]) ∧ w2 = w') := Lib.hid (fun bn2 bs2 v2 w2 h2 => by
    rw [ht, he2]; exact read_any g bn2 bs2 v2 (openS S) fileN w2 h2 (by decide))
  have hpa : Hid (∀ w, Calls Tryd.prog 17 #[.string ⟨t.toArray⟩] w (ParsedTo w t)) := Lib.hid (fun w => fparse_any t w hlen)
  have hE : Hid (openE S = if e1 = 15 then 15 else if e2 = 5 then 0 else if e2 = 0 then (if parseOk t = true then 0 else 7) else e2) := Lib.hid (by unfold openE; rw [← he1, ← he2, ← ht])
  have hT : Hid (openT S = if e2 = 0 then looseT t else []) := Lib.hid (by unfold openT; rw [← he2, ← ht])
  clear he1 he2 ht h hA hlen
  rcases c1 with rfl | rfl | rfl
  case inr.inr =>
    go_enter Tryd.func26, Tryd.ntmps26
    go_wp2_with (first
      | (go_at_call 57; (with_reducible refine hrm.out.mono ?_); rintro e w2 ⟨rfl, ht⟩))
    refine bodyPost_ret (results_tmp2 rfl _ _ _) rfl ?_
    refine ⟨ht, ?_⟩
    rw [hE.out]; rfl
  all_goals
    rcases c2 with rfl | rfl | rfl
    case inr.inr =>
      go_enter Tryd.func26, Tryd.ntmps26
      go_wp2_with (first
        | (go_at_call 57; (with_reducible refine hrm.out.mono ?_); rintro e w2 ⟨rfl, ht, L', ⟨bn2, bs2, v2, hD2, rfl⟩, hL⟩)
        | (go_at_call 58; (with_reducible refine (hrd.out _ _ _ _ hD2).mono ?_); rintro e w3 ⟨rfl, rfl⟩))
      refine bodyPost_ret (results_tmp2 rfl _ _ _) rfl ?_
      refine ⟨turned_below ht hD2 hL (Below.refl _ _), ?_⟩
      rw [hE.out]; rfl
    case inr.inl =>
      go_enter Tryd.func26, Tryd.ntmps26
      go_wp2_with (first
        | (go_at_call 57; (with_reducible refine hrm.out.mono ?_); rintro e w2 ⟨rfl, ht, L', ⟨bn2, bs2, v2, hD2, rfl⟩, hL⟩)
        | (go_at_call 58; (with_reducible refine (hrd.out _ _ _ _ hD2).mono ?_); rintro e w3 ⟨rfl, rfl⟩))
      refine bodyPost_ret (results_tmp2 rfl _ _ _) rfl ?_
      refine ⟨turned_below ht hD2 hL ((Below.refl _ _).alloc (Nat.le_refl _) _), ?_⟩
      rw [hE.out, hT.out]
      exact ⟨_, _, rfl, ht.size, Blk.new_at rfl, OwnTab.nil⟩
    case inl =>
      by_cases hp : parseOk t = true
      · have hpa2 : Hid (∀ w, Calls Tryd.prog 17 #[.string ⟨t.toArray⟩] w fun e w' => ∃ v, e = .returned (.tuple #[v, .int .i64 0]) ∧ OwnTab w' w.heap.size v (looseT t) ∧ Below w.heap.size w w') := Lib.hid (fun w => (hpa.out w).mono fun e w' hR => by
          obtain ⟨hb, hR⟩ := hR
          rw [if_pos hp] at hR
          obtain ⟨v, h1, h2⟩ := hR
          exact ⟨v, h1, h2, hb⟩)
        replace hp := Lib.hid hp
        clear hpa
        go_enter Tryd.func26, Tryd.ntmps26
        go_wp2_with (first
          | (go_at_call 57; (with_reducible refine hrm.out.mono ?_); rintro e w2 ⟨rfl, ht, L', ⟨bn2, bs2, v2, hD2, rfl⟩, hL⟩)
          | (go_at_call 58; (with_reducible refine (hrd.out _ _ _ _ hD2).mono ?_); rintro e w3 ⟨rfl, rfl⟩)
          | (go_at_call 17; (with_reducible refine (hpa2.out _).mono ?_); rintro e w4 ⟨tv, rfl, hO4, hb4⟩; obtain ⟨TA, tc, rfl, _⟩ := hO4.form))
        refine bodyPost_ret (results_tmp2 rfl _ _ _) rfl ?_
        have hba := (Below.refl w4.heap.size w4).alloc (Nat.le_refl _) (.cells #[.pointer (some ⟨g, 0, none⟩), .slice TA (looseT t).length tc, .bool false] 69)
        refine ⟨turned_below ht hD2 hL (hb4.trans (hba.mono hb4.size)), ?_⟩
        rw [hE.out, hT.out, hp.out]
        obtain ⟨vs, hvl, hrow, hh⟩ := hO4
        have hO5 : OwnTab (w4.alloc (.cells #[.pointer (some ⟨g, 0, none⟩), .slice TA (looseT t).length tc, .bool false] 69)) w.heap.size (.slice TA (looseT t).length tc) (looseT t) := (OwnTab.keepB ⟨vs, hvl, hrow, hh⟩ hba).lower ht.size
        exact ⟨_, _, rfl, Nat.le_trans ht.size hb4.size, Blk.new_at rfl, hO5⟩
      · have hpa2 : Hid (∀ w, Calls Tryd.prog 17 #[.string ⟨t.toArray⟩] w fun e w' => e = .returned (.tuple #[.slice none 0 0, .int .i64 7]) ∧ Below w.heap.size w w') := Lib.hid (fun w => (hpa.out w).mono fun e w' hR => by
          obtain ⟨hb, hR⟩ := hR
          rw [if_neg hp] at hR
          exact ⟨hR, hb⟩)
        have hp' : parseOk t = false := by simpa using hp
        replace hp' := Lib.hid hp'
        clear hpa hp
        go_enter Tryd.func26, Tryd.ntmps26
        go_wp2_with (first
          | (go_at_call 57; (with_reducible refine hrm.out.mono ?_); rintro e w2 ⟨rfl, ht, L', ⟨bn2, bs2, v2, hD2, rfl⟩, hL⟩)
          | (go_at_call 58; (with_reducible refine (hrd.out _ _ _ _ hD2).mono ?_); rintro e w3 ⟨rfl, rfl⟩)
          | (go_at_call 17; (with_reducible refine (hpa2.out _).mono ?_); rintro e w4 ⟨rfl, hb4⟩))
        refine bodyPost_ret (results_tmp2 rfl _ _ _) rfl ?_
        refine ⟨turned_below ht hD2 hL hb4, ?_⟩
        rw [hE.out, hp'.out]; rfl
end Go.Proofs.YtlenmkemjaaaoaaDoor
end

section
/- The walk of Refs.Do. -/
namespace Go.Proofs.YtlenmkemjaaaoaaDoor
open Go.RowKit

def chainE (S : DS) : List Call → Int
  | [] => 0
  | c :: r => if c.errno S = 0 then chainE (c.turn S) r else c.errno S
def chainS (S : DS) : List Call → DS
  | [] => S
  | c :: r => if c.errno S = 0 then chainS (c.turn S) r else c.turn S
def doCalls (s : Str) : List Call := [.write nextN s, .sync, .rename nextN fileN, .sync]
theorem OwnTab.touch {w w' : World} {L : List Nat} {base : Nat} {v : Value} {T : Tab} (h : OwnTab w base v T) (ht : Touch L w w') (hn : ∀ i ∈ L, ∀ t cs, Blk w i t cs → t ≠ 61 ∧ t ≠ 57) : OwnTab w' base v T := by
  obtain ⟨vs, hl, ho, hh⟩ := h
  refine ⟨vs, hl, own_touch ho ht (fun b hb hm => ?_), fun k b u h1 h2 => (hh k b u h1 h2).keep (fun b cs _ hB => hB.touch ht (fun hm => (hn b hm _ _ hB).2 rfl))⟩
  obtain ⟨cs, hB⟩ := own_blk ho b hb
  exact (hn b hm _ _ hB).1 rfl
theorem foot_tags {w : World} {g bn bs : Nat} {pv : Value} {S : DS} (hD : DiskAt w g bn bs pv S) : ∀ i ∈ foot g bn bs pv, ∀ t cs, Blk w i t cs → t = 75 ∨ t = 120 := fun i hi t cs hB => by
  by_cases h1 : t = 75
  · exact .inl h1
  · by_cases h2 : t = 120
    · exact .inr h2
    · exact absurd hi (hD.tag hB h1 h2)
theorem eq_of_flag {e : Int} (h : (e == 0) = true) : e = 0 := by simpa using h
theorem eq_of_flag2 {e : Int} (h : (e != 0) = false) : e = 0 := by simpa using h
theorem ne_of_flag {e : Int} (h : (e != 0) = true) : e ≠ 0 := by simpa using h
/-- Between two calls to the disk. -/
structure Mid (w : World) (L : List Nat) (rb g : Nat) (v nv : Value) (base : Nat) (T : Tab) (S : DS) (W : World) : Prop where
  touch : Touch L w W
  disk : ∃ L', DiskIs W L' g S ∧ ∀ i ∈ L', i ∈ L ∨ w.heap.size ≤ i
  ref : Blk W rb 69 [.pointer (some ⟨g, 0, none⟩), v, .bool false]
  own : OwnTab W base nv T
theorem Mid.step {w : World} {L : List Nat} {rb g : Nat} {v nv : Value} {base : Nat} {T : Tab} {S S' : DS} {W W' : World} (h : Mid w L rb g v nv base T S W) {bn bs : Nat} {pv : Value} (hD : DiskAt W g bn bs pv S) (hL : ∀ i ∈ foot g bn bs pv, i ∈ L ∨ w.heap.size ≤ i) (ht : Turned W (foot g bn bs pv) g S' W') : Mid w L rb g v nv base T S' W' := by
  obtain ⟨ht, L', hD', hL'⟩ := ht
  have hf := foot_tags hD
  refine ⟨h.touch.trans ht hL, ⟨L', hD', fun i hi => ?_⟩, h.ref.touch ht (hD.tag h.ref (by decide) (by decide)), h.own.touch ht (fun i hi t cs hB => ?_)⟩
  · rcases hL' i hi with h1 | h1
    · exact hL i h1
    · exact .inr (Nat.le_trans h.touch.size h1)
  · rcases hf i hi t cs hB with rfl | rfl <;> exact ⟨by decide, by decide⟩
def DoTo (w : World) (L : List Nat) (rb g : Nat) (v : Value) (T : Tab) (E : Int) (S : DS) (e : Ending) (w' : World) : Prop :=
  e = .returned (.int .i64 E) ∧ Touch (rb :: L) w w' ∧ (∃ L', DiskIs w' L' g S ∧ ∀ i ∈ L', i ∈ L ∨ w.heap.size ≤ i) ∧
  ∃ nv, Blk w' rb 69 [.pointer (some ⟨g, 0, none⟩), nv, .bool (decide (E = 15))] ∧ if E = 0 then OwnTab w' w.heap.size nv T else nv = v
theorem DiskIs.set {W : World} {L' : List Nat} {g : Nat} {S : DS} {rb i : Nat} {u : Value} {cs : List Value} (h : DiskIs W L' g S) (hB : Blk W rb 69 cs) : DiskIs (W.setCell ⟨rb, i, none⟩ u) L' g S := by
  obtain ⟨bn, bs, pv, hD, rfl⟩ := id h
  refine h.touch (M := [rb]) (Touch.setCell u (by simp)) (fun j hj hm => ?_) (fun j hj cs' hB' => ?_)
  · simp only [List.mem_singleton] at hm
    subst hm
    exact hD.tag hB (by decide) (by decide) hj
  · simp only [List.mem_singleton] at hj
    subst hj
    exact hB'.ne_ hB (by decide) rfl
theorem OwnTab.set {W : World} {base : Nat} {v : Value} {T : Tab} {rb i : Nat} {u : Value} {cs : List Value} (h : OwnTab W base v T) (hB : Blk W rb 69 cs) : OwnTab (W.setCell ⟨rb, i, none⟩ u) base v T :=
  h.touch (L := [rb]) (Touch.setCell u (by simp)) (fun j hj t cs' hB' => by
    simp only [List.mem_singleton] at hj
    subst hj
    have := hB'.unique hB
    subst this
    exact ⟨by decide, by decide⟩)
/-- Where the calls have failed. -/
theorem DoTo.bad {w : World} {L : List Nat} {rb g : Nat} {v nv : Value} {base : Nat} {T T' : Tab} {S : DS} {W : World} {E : Int} (h : Mid w L rb g v nv base T S W) (hE : E ≠ 0) :
    DoTo w L rb g v T' E S (.returned (.int .i64 E)) (W.setCell ⟨rb, 2, none⟩ (.bool (decide (E = 15)))) := by
  obtain ⟨L', hD, hL'⟩ := h.disk
  refine ⟨rfl, h.touch.mono (fun i hi => .inl (by simp [hi])) |>.trans (Touch.setCell (L := [rb]) _ (by simp)) (fun i hi => .inl (by simp at hi; simp [hi])), ⟨L', hD.set h.ref, hL'⟩, v, h.ref.set_ 2 _, ?_⟩
  rw [if_neg hE]
theorem DoTo.good {w : World} {L : List Nat} {rb g : Nat} {v nv : Value} {T : Tab} {S : DS} {W : World} (h : Mid w L rb g v nv w.heap.size T S W) :
    DoTo w L rb g v T 0 S (.returned (.int .i64 0)) ((W.setCell ⟨rb, 2, none⟩ (.bool false)).setCell ⟨rb, 1, none⟩ nv) := by
  obtain ⟨L', hD, hL'⟩ := h.disk
  have hB2 := h.ref.set_ 2 (.bool false)
  refine ⟨rfl, (h.touch.mono (fun i hi => .inl (by simp [hi])) |>.trans (Touch.setCell (L := [rb]) _ (by simp)) (fun i hi => .inl (by simp at hi; simp [hi]))).trans (Touch.setCell (L := [rb]) _ (by simp)) (fun i hi => .inl (by simp at hi; simp [hi])), ⟨L', (hD.set h.ref).set hB2, hL'⟩, nv, hB2.set_ 1 _, ?_⟩
  rw [if_pos rfl]
  exact (h.own.set h.ref).set hB2
set_option maxRecDepth 100000 in
set_option maxHeartbeats 4000000 in
theorem do_nil (u : Value) (w : World) : Calls Tryd.prog 27 #[.pointer none, u] w fun e w' => e = .returned (.int .i64 2) ∧ w' = w := by
  go_enter Tryd.func27, Tryd.ntmps27
  go_wp2
  go_ret
  exact ⟨rfl, rfl⟩
set_option maxRecDepth 100000 in
set_option maxHeartbeats 4000000 in
theorem do_none (rb : Nat) (u v br : Value) (w : World) (hB : Blk w rb 69 [.pointer none, v, br]) : Calls Tryd.prog 27 #[.pointer (some ⟨rb, 0, none⟩), u] w fun e w' => e = .returned (.int .i64 2) ∧ w' = w := by
  have h0 := hB.cell 0
  go_enter Tryd.func27, Tryd.ntmps27
  go_wp2
  go_ret
  exact ⟨rfl, rfl⟩
set_option maxRecDepth 100000 in
set_option maxHeartbeats 4000000 in
theorem do_broken (rb g : Nat) (u v : Value) (w : World) (hB : Blk w rb 69 [.pointer (some ⟨g, 0, none⟩), v, .bool true]) : Calls Tryd.prog 27 #[.pointer (some ⟨rb, 0, none⟩), u] w fun e w' => e = .returned (.int .i64 16) ∧ w' = w := by
  have h0 := hB.cell 0
  have h2 := hB.cell 2
  go_enter Tryd.func27, Tryd.ntmps27
  go_wp2
  go_ret
  exact ⟨rfl, rfl⟩
set_option maxRecDepth 100000 in
set_option maxHeartbeats 4000000 in
/-- Changes that are refused, or none at all. -/
theorem do_early (rb g : Nat) (v u : Value) (T : Tab) (C : List Chg) (ok ok' : Nat → Prop) (w : World) (hB : Blk w rb 69 [.pointer (some ⟨g, 0, none⟩), v, .bool false])
    (h : TabIs w ok v T) (hf : TFit T) (h' : ChsIs w ok' u C) (hc : CFit C) (hE : applyE T C ≠ 0 ∨ C = []) :
    Calls Tryd.prog 27 #[.pointer (some ⟨rb, 0, none⟩), u] w fun e w' => e = .returned (.int .i64 (applyE T C)) ∧ Below w.heap.size w w' := by
  have hap := Lib.hid (apply_any T C v u ok ok' w h hf h' hc)
  obtain ⟨A, tc, rfl, htc⟩ := h.form
  obtain ⟨CA, cc, rfl, hcc⟩ := h'.form
  have h0 := hB.cell 0
  have h1 := hB.cell 1
  have h2 := hB.cell 2
  obtain ⟨E, hEe⟩ : ∃ E, E = applyE T C := ⟨_, rfl⟩
  unfold ApplyTo at hap
  rw [← hEe] at hap hE ⊢
  replace hEe := Lib.hid hEe
  clear h h'
  by_cases hE0 : E = 0
  · subst hE0
    obtain rfl : C = [] := by
      rcases hE with h | h
      · exact absurd rfl h
      · exact h
    clear hE
    simp only [List.length_nil] at hap ⊢
    go_enter Tryd.func27, Tryd.ntmps27
    go_wp2_with (first
      | (go_at_call 21; (with_reducible refine hap.out.mono ?_); rintro e w2 ⟨nv, rfl, hO2, hb2⟩; obtain ⟨NA, nc, rfl, _⟩ := hO2.form))
    go_ret
    exact ⟨rfl, hb2⟩
  · clear hE
    go_enter Tryd.func27, Tryd.ntmps27
    go_wp2_with (first
      | (go_at_call 21; (with_reducible refine hap.out.mono ?_); rintro e w2 ⟨nv, rfl, hO2, hb2⟩; obtain ⟨NA, nc, rfl, _⟩ := hO2.form))
    go_ret
    exact ⟨rfl, hb2⟩
set_option maxRecDepth 100000 in
set_option maxHeartbeats 8000000 in
/-- Changes that are done. -/
theorem do_late (rb g bn bs : Nat) (pv v u : Value) (S : DS) (T : Tab) (C : List Chg) (ok ok' : Nat → Prop) (w : World) (hB : Blk w rb 69 [.pointer (some ⟨g, 0, none⟩), v, .bool false])
    (h : TabIs w ok v T) (hf : TFit T) (h' : ChsIs w ok' u C) (hc : CFit C) (hE : applyE T C = 0) (hC : C ≠ []) (hft : TFit (applyT T C)) (hpl : (printT (applyT T C)).length ≤ 140737488355328)
    (hD : DiskAt w g bn bs pv S) (hA0 : Asked S) (hA1 : Asked ((Call.write nextN (printT (applyT T C))).turn S)) (hA2 : Asked (Call.sync.turn ((Call.write nextN (printT (applyT T C))).turn S)))
    (hA3 : Asked ((Call.rename nextN fileN).turn (Call.sync.turn ((Call.write nextN (printT (applyT T C))).turn S)))) :
    Calls Tryd.prog 27 #[.pointer (some ⟨rb, 0, none⟩), u] w (DoTo w (foot g bn bs pv) rb g v (applyT T C) (chainE S (doCalls (printT (applyT T C)))) (chainS S (doCalls (printT (applyT T C))))) := by
  have hap := Lib.hid (apply_any T C v u ok ok' w h hf h' hc)
  obtain ⟨A, tc, rfl, htc⟩ := h.form
  obtain ⟨CA, cc, rfl, hcc⟩ := h'.form
  unfold ApplyTo at hap
  rw [hE] at hap
  obtain ⟨N, hN⟩ : ∃ N, N = applyT T C := ⟨_, rfl⟩
  obtain ⟨Pt, hPt⟩ : ∃ Pt, Pt = printT (applyT T C) := ⟨_, rfl⟩
  rw [← hPt] at hpl hA1 hA2 hA3 ⊢
  rw [← hN] at hap hft hPt ⊢
  have hpr : Hid (∀ (nv : Value) (W : World), OwnTab W w.heap.size nv N → Calls Tryd.prog 13 #[nv] W fun e w' => e = .returned (.tuple #[.string ⟨Pt.toArray⟩, .int .i64 (mayE N)]) ∧ Below W.heap.size W w') := Lib.hid (fun nv W hO => by rw [hPt]; exact print_any N nv _ W hO.tab hft)
  obtain ⟨m, hm⟩ : ∃ m, m = mayE N := ⟨_, rfl⟩
  rw [← hm] at hpr
  have hCl : 0 < C.length := List.length_pos_iff.2 hC
  obtain ⟨S1, hS1⟩ : ∃ S1, S1 = (Call.write nextN Pt).turn S := ⟨_, rfl⟩
  obtain ⟨S2, hS2⟩ : ∃ S2, S2 = Call.sync.turn S1 := ⟨_, rfl⟩
  obtain ⟨S3, hS3⟩ : ∃ S3, S3 = (Call.rename nextN fileN).turn S2 := ⟨_, rfl⟩
  obtain ⟨e1, he1⟩ : ∃ e1, e1 = (Call.write nextN Pt).errno S := ⟨_, rfl⟩
  obtain ⟨e2, he2⟩ : ∃ e2, e2 = Call.sync.errno S1 := ⟨_, rfl⟩
  obtain ⟨e3, he3⟩ : ∃ e3, e3 = (Call.rename nextN fileN).errno S2 := ⟨_, rfl⟩
  obtain ⟨e4, he4⟩ : ∃ e4, e4 = Call.sync.errno S3 := ⟨_, rfl⟩
  rw [← hS1] at hA1 hA2 hA3
  rw [← hS2] at hA2 hA3
  rw [← hS3] at hA3
  have hwr : Hid (∀ nv W, Mid w (foot g bn bs pv) rb g (.slice A T.length tc) nv w.heap.size N S W → Calls Tryd.prog 59 #[.pointer (some ⟨g, 0, none⟩), .string ⟨#[114, 101, 102, 115, 46, 110, 101, 119]⟩, .string ⟨Pt.toArray⟩] W fun e W' => e = .returned (.int .i64 e1) ∧ Mid w (foot g bn bs pv) rb g (.slice A T.length tc) nv w.heap.size N S1 W') := Lib.hid (fun nv W hm => by
    obtain ⟨L', ⟨bn', bs', pv', hD', rfl⟩, hL'⟩ := hm.disk
    refine (write_any g bn' bs' pv' S nextN Pt W hD' hA0 (by decide) hpl).mono ?_
    rintro e W' ⟨he, ht⟩
    rw [← hS1] at ht
    exact ⟨by rw [he, he1], hm.step hD' hL' ht⟩)
  have hs1 : Hid (∀ nv W, Mid w (foot g bn bs pv) rb g (.slice A T.length tc) nv w.heap.size N S1 W → Calls Tryd.prog 60 #[.pointer (some ⟨g, 0, none⟩)] W fun e W' => e = .returned (.int .i64 e2) ∧ Mid w (foot g bn bs pv) rb g (.slice A T.length tc) nv w.heap.size N S2 W') := Lib.hid (fun nv W hm => by
    obtain ⟨L', ⟨bn', bs', pv', hD', rfl⟩, hL'⟩ := hm.disk
    refine (sync_any g bn' bs' pv' S1 W hD' hA1.toFit).mono ?_
    rintro e W' ⟨he, ht⟩
    rw [← hS2] at ht
    exact ⟨by rw [he, he2], hm.step hD' hL' ht⟩)
  have hrn : Hid (∀ nv W, Mid w (foot g bn bs pv) rb g (.slice A T.length tc) nv w.heap.size N S2 W → Calls Tryd.prog 61 #[.pointer (some ⟨g, 0, none⟩), .string ⟨#[114, 101, 102, 115, 46, 110, 101, 119]⟩, .string ⟨#[114, 101, 102, 115]⟩] W fun e W' => e = .returned (.int .i64 e3) ∧ Mid w (foot g bn bs pv) rb g (.slice A T.length tc) nv w.heap.size N S3 W') := Lib.hid (fun nv W hm => by
    obtain ⟨L', ⟨bn', bs', pv', hD', rfl⟩, hL'⟩ := hm.disk
    refine (rename_any g bn' bs' pv' S2 nextN fileN W hD' hA2 (by decide) (by decide)).mono ?_
    rintro e W' ⟨he, ht⟩
    rw [← hS3] at ht
    exact ⟨by rw [he, he3], hm.step hD' hL' ht⟩)
  have hs2 : Hid (∀ nv W, Mid w (foot g bn bs pv) rb g (.slice A T.length tc) nv w.heap.size N S3 W → Calls Tryd.prog 60 #[.pointer (some ⟨g, 0, none⟩)] W fun e W' => e = .returned (.int .i64 e4) ∧ Mid w (foot g bn bs pv) rb g (.slice A T.length tc) nv w.heap.size N (Call.sync.turn S3) W') := Lib.hid (fun nv W hm => by
    obtain ⟨L', ⟨bn', bs', pv', hD', rfl⟩, hL'⟩ := hm.disk
    refine (sync_any g bn' bs' pv' S3 W hD' hA3.toFit).mono ?_
    rintro e W' ⟨he, ht⟩
    exact ⟨by rw [he, he4], hm.step hD' hL' ht⟩)
  have hcE : Hid (chainE S (doCalls Pt) = if e1 = 0 then (if e2 = 0 then (if e3 = 0 then (if e4 = 0 then 0 else e4) else e3) else e2) else e1) := Lib.hid (by simp only [doCalls, chainE, ← hS1, ← he1, ← hS2, ← he2, ← hS3, ← he3, ← he4])
  have hcS : Hid (chainS S (doCalls Pt) = if e1 = 0 then (if e2 = 0 then (if e3 = 0 then (if e4 = 0 then Call.sync.turn S3 else Call.sync.turn S3) else S3) else S2) else S1) := Lib.hid (by simp only [doCalls, chainS, ← hS1, ← he1, ← hS2, ← he2, ← hS3, ← he3, ← he4])
  have hmid : Hid (∀ nv W, OwnTab W w.heap.size nv N → Below w.heap.size w W → Mid w (foot g bn bs pv) rb g (.slice A T.length tc) nv w.heap.size N S W) := Lib.hid (fun nv W hO hb => ⟨Touch.ofBelow hb, ⟨_, ⟨bn, bs, pv, hD.below hb, rfl⟩, fun i hi => .inl hi⟩, hB.below hb hB.lt, hO⟩)
  have h0 := hB.cell 0
  have h1 := hB.cell 1
  have h2 := hB.cell 2
  have iC : ((C.length : Int) == 0) = false := by rw [beq_eq_false_iff_ne]; omega
  clear h h' hS1 hS2 hS3 he1 he2 he3 he4 hm hPt hN hE hD hA0 hA1 hA2 hA3 hC
  go_enter Tryd.func27, Tryd.ntmps27
  go_wp2_with (first
    | (go_at_call 21; (with_reducible refine hap.out.mono ?_); rintro e w2 ⟨nv, rfl, hO2, hb2⟩; obtain ⟨NA, nc, rfl, _⟩ := hO2.form; replace hO2 := Lib.hid hO2)
    | (go_at_call 13; (with_reducible refine (hpr.out _ _ hO2.out).mono ?_); rintro e w3 ⟨rfl, hb3⟩; have hm0 := hmid.out _ w3 (hO2.out.keepB hb3) (hb2.trans (hb3.mono hb2.size)); have r0 := hm0.ref.cell 0)
    | (go_at_call 59; (with_reducible refine (hwr.out _ _ hm0).mono ?_); rintro e w4 ⟨rfl, hm1⟩; have r0 := hm1.ref.cell 0; have r2 := hm1.ref.cell 2; have f2 := hm1.ref.frozen 2)
    | (go_at_call 60; (with_reducible refine (hs2.out _ _ hm3).mono ?_); rintro e w7 ⟨rfl, hm4⟩; have r0 := hm4.ref.cell 0; have r2 := hm4.ref.cell 2; have f2 := hm4.ref.frozen 2; have r1 := hm4.ref.cell 1; have f1 := hm4.ref.frozen 1)
    | (go_at_call 60; (with_reducible refine (hs1.out _ _ hm1).mono ?_); rintro e w5 ⟨rfl, hm2⟩; have r0 := hm2.ref.cell 0; have r2 := hm2.ref.cell 2; have f2 := hm2.ref.frozen 2)
    | (go_at_call 61; (with_reducible refine (hrn.out _ _ hm2).mono ?_); rintro e w6 ⟨rfl, hm3⟩; have r0 := hm3.ref.cell 0; have r2 := hm3.ref.cell 2; have f2 := hm3.ref.frozen 2))
  · have z1 : e1 = 0 := eq_of_flag (by assumption)
    have z2 : e2 = 0 := eq_of_flag (by assumption)
    have z3 : e3 = 0 := eq_of_flag (by assumption)
    have z4 : e4 ≠ 0 := ne_of_flag (by assumption)
    go_ret
    rw [hcE.out, hcS.out, if_pos z1, if_pos z2, if_pos z3, if_neg z4, if_pos z1, if_pos z2, if_pos z3, if_neg z4]
    exact DoTo.bad hm4 z4
  · have z1 : e1 = 0 := eq_of_flag (by assumption)
    have z2 : e2 = 0 := eq_of_flag (by assumption)
    have z3 : e3 = 0 := eq_of_flag (by assumption)
    have z4 : e4 = 0 := eq_of_flag2 (by assumption)
    subst z4
    go_ret
    rw [hcE.out, hcS.out, if_pos z1, if_pos z2, if_pos z3, if_pos rfl, if_pos z1, if_pos z2, if_pos z3, if_pos rfl]
    exact DoTo.good hm4
  · have z1 : e1 = 0 := eq_of_flag (by assumption)
    have z2 : e2 = 0 := eq_of_flag (by assumption)
    have z4 : e3 ≠ 0 := ne_of_flag (by assumption)
    go_ret
    rw [hcE.out, hcS.out, if_pos z1, if_pos z2, if_neg z4, if_pos z1, if_pos z2, if_neg z4]
    exact DoTo.bad hm3 z4
  · have z1 : e1 = 0 := eq_of_flag (by assumption)
    have z4 : e2 ≠ 0 := ne_of_flag (by assumption)
    go_ret
    rw [hcE.out, hcS.out, if_pos z1, if_neg z4, if_pos z1, if_neg z4]
    exact DoTo.bad hm2 z4
  · have z4 : e1 ≠ 0 := ne_of_flag (by assumption)
    go_ret
    rw [hcE.out, hcS.out, if_neg z4, if_neg z4]
    exact DoTo.bad hm1 z4
end Go.Proofs.YtlenmkemjaaaoaaDoor
end
