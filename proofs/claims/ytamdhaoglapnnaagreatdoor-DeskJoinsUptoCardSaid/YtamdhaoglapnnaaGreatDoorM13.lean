/- Joined: DkL, DkA, DkB, DkC, DkD, DkE, DkF. -/
import Derived.Test.YtamdhaoglapnnaaGreatDoorM03
import Derived.Test.YtamdhaoglapnnaaGreatDoorM12
import Derived.Deep.QuietTactic
import Derived.BigQuiet
import Derived.LoopTactic
import Derived.IntWalk
import Derived.Shelf.Abstract
section
/- The library's call at the disk: maps.Clone. -/
namespace Go.Proofs.YtamdhaoglapnnaaGreatDoor
open Go.RowKit Go.Maps Go.Sort Go.Shelf

theorem mclone_any (w : World) (b : Nat) (D : DM) (h : MapIs w b D) :
    Calls Tryz.prog 83 #[.map (some b)] w fun e w' => e = .returned (.map (some w.heap.size)) ∧ MapIs w' w.heap.size D ∧ Below w.heap.size w w' := by
  have hc := AnyW.maps_Clone_owns Tryz.cloneM 9 (plainElem (H := Unit) Tryz.prog 9) b (fLen D) D w h
  change Calls Tryz.prog 83 _ _ _ at hc
  exact hc.mono fun e w' ⟨h1, h2, _, h4⟩ => ⟨h1, h2, h4⟩

theorem callInfo : (Tryz.prog.info? 145).map (fun i => (i.zero, i.size, i.bytes)) = some (some (.agg #[.nilFunc]), 1, 8) := by kernel_rfl
end Go.Proofs.YtamdhaoglapnnaaGreatDoor
end

section
/- The walks of name, made, power, size and of the closures. -/
namespace Go.Proofs.YtamdhaoglapnnaaGreatDoor
open Go.RowKit Go.Maps Go.Sort

theorem strLen (s : List UInt8) : (⟨s.toArray⟩ : ByteArray).size = s.length := by simp [ByteArray.size]
set_option maxHeartbeats 400000 in
theorem name_any (s : List UInt8) (w : World) (hs : s.length ≤ 140737488355328) : Calls Tryz.prog 88 #[strV s] w fun e w' => e = .returned (.bool (nameB s)) ∧ w = w' := by
  unfold strV
  by_cases h1 : 1 ≤ s.length
  · have d1 : decide (1 ≤ (s.length : Int)) = true := by simp; omega
    have hn : nameB s = decide (s.length ≤ 80) := by simp [nameB, h1]
    rw [hn]
    clear hn
    go_enter Tryz.func88, Tryz.ntmps88
    go_wp2
    go_ret
    exact ⟨by simp; omega, rfl⟩
  · have hn : nameB s = false := by simp [nameB]; omega
    rw [hn]
    clear hn
    go_enter Tryz.func88, Tryz.ntmps88
    go_wp2
    go_ret
    exact ⟨by simp, rfl⟩
set_option maxHeartbeats 400000 in
theorem made_any (g bn bs : Nat) (v : Value) (S : DS) (w : World) (h : DiskAt w g bn bs v S) : Calls Tryz.prog 82 #[.pointer (some ⟨g, 0, none⟩)] w fun e w' => e = .returned (.bool true) ∧ w = w' := by
  have c0 : w.cell? ⟨g, 0, none⟩ = some (.map (some bn)) := by rw [h.blk.cell]; rfl
  have hq := fun w => run_neq_map_nil (P := Tryz.prog) w 87 _ _ (some bn) Tryz.underlying87
  go_enter Tryz.func82, Tryz.ntmps82
  go_wp2
  go_ret
  exact ⟨rfl, rfl⟩

theorem DiskAt.gne {w : World} {g bn bs : Nat} {v : Value} {S : DS} (h : DiskAt w g bn bs v S) : ∀ i ∈ bn :: bs :: v.ownBlock.toList, i ≠ g := by
  intro i hi e
  subst e
  simp only [List.mem_cons, Option.mem_toList] at hi
  rcases hi with rfl | rfl | e
  · obtain ⟨es, c, he⟩ := h.now.at
    have hB := h.blk
    unfold Blk at hB; rw [he] at hB; cases hB
  · obtain ⟨es, c, he⟩ := h.sure.at
    have hB := h.blk
    unfold Blk at hB; rw [he] at hB; cases hB
  · obtain ⟨vs, ho, _⟩ := h.row
    rcases ho.2 with ⟨rfl, _⟩ | ⟨g', cap, cur, rfl, _, hg, _⟩
    · cases e
    · have : g' = i := by simpa [Value.ownBlock] using e
      subst this
      have hB := h.blk
      unfold Blk at hB
      rw [hg] at hB
      injection hB with hB
      injection hB with _ ht
      exact absurd ht (by decide)
/-- The struct alone is written. -/
theorem DiskAt.turn {w w' : World} {g bn bs : Nat} {v : Value} {S S' : DS} (h : DiskAt w g bn bs v S) (ht : Touch [g] w w') (hB : Blk w' g 90 (dCells bn bs v S')) (e1 : S'.now = S.now) (e2 : S'.sure = S.sure) (e3 : S'.pend = S.pend) :
    DiskAt w' g bn bs v S' := by
  have hg := h.gne
  obtain ⟨vs, ho, hop⟩ := h.row
  refine ⟨hB, ?_, ?_, h.ne, vs, ?_, ?_⟩
  · rw [e1]; exact h.now.touch ht (by simpa using hg bn (by simp))
  · rw [e2]; exact h.sure.touch ht (by simpa using hg bs (by simp))
  · rw [e3]; exact own_touch ho ht (fun b hb => by simpa using hg b (by simp [hb]))
  · rw [e3]; exact hop.touch ht (fun i hi cs hc => by
      have : i = g := by simpa using hi
      subst this
      exact h.blk.ne_ hc (by decide) rfl)

theorem dret_int {k : IntKind} {a b : Int} (h : a = b) : Ending.returned (.int k a) = .returned (.int k b) := by rw [h]
set_option maxHeartbeats 400000 in
theorem power_read (g bn bs : Nat) (v : Value) (S : DS) (w : World) (h : DiskAt w g bn bs v S) : Calls Tryz.prog 87 #[.pointer (some ⟨g, 0, none⟩), .bool false] w fun e w' => e = .returned (.int .i64 S.powR) ∧ w = w' := by
  have c5 : w.cell? ⟨g, 5, none⟩ = some (.bool S.off) := by rw [h.blk.cell]; rfl
  have hm := Lib.hid (made_any g bn bs v S w h)
  clear h
  cases ho : S.off with
  | true =>
    have hp : Hid (S.powR = 15) := Lib.hid (by simp [DS.powR, ho])
    rw [ho] at c5
    clear ho
    go_enter Tryz.func87, Tryz.ntmps87
    go_wp2_with fail
    refine hm.out.mono ?_
    rintro e w' ⟨rfl, rfl⟩
    go_wp2
    go_ret
    exact ⟨dret_int hp.out.symm, rfl⟩
  | false =>
    have hp : Hid (S.powR = 0) := Lib.hid (by simp [DS.powR, ho])
    rw [ho] at c5
    clear ho
    go_enter Tryz.func87, Tryz.ntmps87
    go_wp2_with fail
    refine hm.out.mono ?_
    rintro e w' ⟨rfl, rfl⟩
    go_wp2
    go_ret
    exact ⟨dret_int hp.out.symm, rfl⟩
set_option maxHeartbeats 400000 in
theorem power_write (g bn bs : Nat) (v : Value) (S : DS) (w : World) (h : DiskAt w g bn bs v S) (f0 : -1 ≤ S.fuse) (f1 : S.fuse ≤ 1000000) : Calls Tryz.prog 87 #[.pointer (some ⟨g, 0, none⟩), .bool true] w fun e w' =>
    e = .returned (.int .i64 S.powE) ∧ DiskAt w' g bn bs v S.tick ∧ Touch [g] w w' ∧ w'.heap.size = w.heap.size := by
  have c4 : w.cell? ⟨g, 4, none⟩ = some (.int .i64 S.fuse) := by rw [h.blk.cell]; rfl
  have c5 : w.cell? ⟨g, 5, none⟩ = some (.bool S.off) := by rw [h.blk.cell]; rfl
  have z4 := h.blk.frozen 4
  have z5 := h.blk.frozen 5
  have hm := Lib.hid (made_any g bn bs v S w h)
  replace h := Lib.hid h
  cases ho : S.off with
  | true =>
    have ht : Hid (S.tick = S) := Lib.hid (by simp [DS.tick, ho])
    have hp : Hid (S.powE = 15) := Lib.hid (by simp [DS.powE, ht.out, ho])
    rw [ho] at c5
    clear ho
    go_enter Tryz.func87, Tryz.ntmps87
    go_wp2_with fail
    refine hm.out.mono ?_
    rintro e w' ⟨rfl, rfl⟩
    go_wp2
    go_ret
    exact ⟨dret_int hp.out.symm, by rw [ht.out]; exact h.out, Touch.refl _ _, rfl⟩
  | false =>
    have ht : Hid (S.tick = { S with off := decide (S.fuse = 0), fuse := max (S.fuse - 1) (-1) }) := Lib.hid (by simp [DS.tick, ho])
    rw [ho] at c5
    clear ho
    obtain ⟨f, hf⟩ : ∃ f, f = S.fuse := ⟨_, rfl⟩
    rw [← hf] at f0 f1 c4 ht
    replace hf := Lib.hid hf
    by_cases hz : f = 0
    · have hp : Hid (S.powE = 15) := Lib.hid (by simp [DS.powE, ht.out, hz])
      subst hz
      go_enter Tryz.func87, Tryz.ntmps87
      go_wp2_with fail
      refine hm.out.mono ?_
      rintro e w' ⟨rfl, rfl⟩
      go_wp2
      go_ret
      refine ⟨dret_int hp.out.symm, ?_, (Touch.setCell _ (by simp)).trans (Touch.setCell _ (by simp)) (fun i hi => .inl hi), by simp⟩
      rw [ht.out]
      exact h.out.turn ((Touch.setCell _ (by simp)).trans (Touch.setCell _ (by simp)) (fun i hi => .inl hi)) ((h.out.blk.set_ 5 _).set_ 4 _) rfl rfl rfl
    · have hB : (f == 0) = false := by simp [hz]
      have hp : Hid (S.powE = 0) := Lib.hid (by simp [DS.powE, ht.out, hz])
      replace hz := Lib.hid hz
      have hD := h
      clear h
      go_enter Tryz.func87, Tryz.ntmps87
      go_wp2_with fail
      refine hm.out.mono ?_
      rintro e w' ⟨rfl, rfl⟩
      go_wp2
      all_goals
        go_ret
        refine ⟨dret_int hp.out.symm, ?_, (Touch.setCell _ (by simp)).trans (Touch.setCell _ (by simp)) (fun i hi => .inl hi), by simp⟩
        rw [ht.out, decide_eq_false hz.out]
        first
          | (rw [show max (f - 1) (-1) = f - 1 by omega]; exact hD.out.turn ((Touch.setCell _ (by simp)).trans (Touch.setCell _ (by simp)) (fun i hi => .inl hi)) ((hD.out.blk.set_ 5 _).set_ 4 _) rfl rfl rfl)
          | (rw [show max (f - 1) (-1) = -1 by omega]; exact hD.out.turn ((Touch.setCell _ (by simp)).trans (Touch.setCell _ (by simp)) (fun i hi => .inl hi)) ((hD.out.blk.set_ 5 _).set_ 4 _) rfl rfl rfl)
          | exact hD.out.turn ((Touch.setCell _ (by simp)).trans (Touch.setCell _ (by simp)) (fun i hi => .inl hi)) ((hD.out.blk.set_ 5 _).set_ 4 _) rfl rfl rfl

/-! ### size -/
/-- What is still to come. -/
def leftSum (D : DM) (left : Lit → Bool) : Nat := (((fEs D).filter fun p => left p.1).map lenD).sum
theorem leftSum_le (D : DM) (left : Lit → Bool) : leftSum D left ≤ fSum D := by
  unfold leftSum fSum
  induction fEs D with
  | nil => simp
  | cons p r ih =>
    rw [List.filter_cons]
    split <;> simp <;> omega
theorem leftSum_start {D : DM} (h : StrMap D) : leftSum D (Maps.has D) = fSum D := by
  obtain ⟨es, rfl, hp, hs⟩ := h
  unfold leftSum fSum
  rw [List.filter_eq_self.2]
  intro p hm
  show Maps.has (.map es) p.1 = true
  rw [has_eq, List.any_eq_true]
  obtain ⟨k, v, rfl⟩ := hs p hm
  exact ⟨_, hm, by simp [Lit.sameKey]⟩
theorem leftSum_end {D : DM} {left : Lit → Bool} (h : ∀ k, left k = false) : leftSum D left = 0 := by
  unfold leftSum
  rw [List.filter_eq_nil_iff.2 (by simp [h])]
  rfl
theorem leftSum_step {D : DM} (h : StrMap D) {left : Lit → Bool} {k t : List UInt8} (hl : left (.string k) = true) (hat : ∀ zd, D.atKey (.string k) zd = litS t) :
    leftSum D left = t.length + leftSum D (fun z => left z && !z.sameKey (.string k)) := by
  have hh := has_true_of_atKey hat
  obtain ⟨es, rfl, hp, hs⟩ := h
  have hhit : hitS es (.string k) = litS t := by
    have h1 := hat (litS [])
    have h2 := fS_map es k
    unfold fS at h2
    rw [h1] at h2
    unfold hitS at h2 ⊢
    rw [has_eq, List.any_eq_true] at hh
    obtain ⟨p, hm, hsk⟩ := hh
    cases hf : es.find? (fun p => p.1.sameKey (.string k)) with
    | none => exact absurd hsk (by simpa using List.find?_eq_none.1 hf p hm)
    | some q =>
      rw [hf] at h2
      obtain ⟨k', v, rfl⟩ := hs q (List.mem_of_find?_eq_some hf)
      simp only [strD, litS] at h2 ⊢
      rw [h2]
  unfold leftSum
  show ((es.filter fun p => left p.1).map lenD).sum = _ + ((es.filter fun p => left p.1 && !p.1.sameKey (.string k)).map lenD).sum
  have h3 : (es.filter fun p => left p.1 && !p.1.sameKey (.string k)) = ((es.filter fun p => left p.1).filter fun p => !p.1.sameKey (.string k)) := by
    rw [List.filter_filter]
    congr 1
    funext p
    exact Bool.and_comm _ _
  rw [h3, ← sum_strike (.string k) (es.filter fun p => left p.1) (hp.filter _)]
  have h4 : hitS (es.filter fun p => left p.1) (.string k) = hitS es (.string k) := by
    unfold hitS
    rw [find_filter_keep (fun p hp' => by rw [WideAt.sameKey_eq hp']; exact hl)]
  rw [h4, hhit]
  simp only [strD, litS]
  exact Nat.add_comm _ _
def SizeRel (w : World) (b : Nat) (D : DM) (n : Nat) (w' : World) : Prop := ∃ left cnt, w'.ranges Tryz.prog 9 (plainElem (H := Unit) Tryz.prog 9) b w.heap.size (fLen D) D left cnt ∧ n + leftSum D left = fSum D ∧ Below w.heap.size w w'
set_option maxHeartbeats 1000000 in
theorem size_any (w : World) (b : Nat) (D : DM) (h : MapIs w b D) (hs : fSum D ≤ 1099511627776) : Calls Tryz.prog 206 #[.map (some b)] w fun e w' => e = .returned (.int .i64 (fSum D)) ∧ Below w.heap.size w w' := by
  have hstr := Lib.hid h.str
  have hlt := h.lt
  replace h := Lib.hid h
  go_enter Tryz.func206, Tryz.ntmps206
  go_wp2_with (refine wpList_range_own _ rfl (.tmp 6) 87 rfl 9 9 keyed Tryz.underlying87 (plainElem (H := Unit) Tryz.prog 9) b (fLen D) D rfl h.out ?_; intro w1 hrg hg1 hz1; go_frame)
  replace hrg := Lib.hid hrg
  replace hg1 := Lib.hid hg1
  replace hz1 := Lib.hid hz1
  go_loopw [3, 5] (fun n _ wr => ∃ k : Nat, n = .int .i64 k ∧ SizeRel w b D k wr) (fun _ _ wr => wr.rangeLeft b w.heap.size)
  case atStart => exact ⟨0, rfl, _, _, hrg.out, by rw [leftSum_start hstr.out]; simp, (Below.refl _ _).grown hg1.out (Nat.le_refl _) (by simp)⟩
  case round =>
    obtain ⟨k, rfl, left, cnt, hr, hk, hb⟩ := hrel
    have hle := leftSum_le D left
    have hkb : (k : Int) ≤ 1099511627776 := by omega
    replace hr := Lib.hid hr
    replace hk := Lib.hid hk
    replace hb := Lib.hid hb
    clear hle
    go_wp2_with (first
      | (refine wpList_next_ranges _ rfl (.tmp 7) rfl 9 keyed (plainElem (H := Unit) Tryz.prog 9) encStr strV (fun key kl hk => by obtain ⟨x, hx, _⟩ := Maps.keyOf_str Tryz.underlying9 hk; exact ⟨x, hx⟩) (fun v y hv => by obtain ⟨c, rfl, _⟩ := elemStr_inv hv; exact ⟨c, rfl⟩) b w.heap.size (fLen D) D left cnt rfl hr.out ?_ ?_))
    · intro hc0 hl0
      have hk' := hk.out
      rw [leftSum_end hl0] at hk'
      clear hl0 hc0
      have hK : Hid (k = fSum D) := Lib.hid (by omega)
      clear hk'
      go_wp2
      go_ret
      exact ⟨dret_int (by rw [hK.out]), hb.out⟩
    · intro x c kl yd yp w2 cnt2 hkey hlk hv hat hrg2 hlt2 hg2 hs2 hen
      obtain ⟨x', ex, rfl, _⟩ := Maps.keyOf_str Tryz.underlying9 hkey
      obtain rfl : x = x' := encStr_inj ex
      obtain ⟨t, et, ez, ht⟩ := elemStr_inv hv
      obtain rfl : c = t := encStr_inj et
      obtain ⟨rfl, rfl⟩ : yd = litS c ∧ yp = [] := by simpa using ez
      have hst := leftSum_step hstr.out hlk hat
      have hle2 := leftSum_le D (fun z => left z && !z.sameKey (.string x))
      have hk' := hk.out
      have hkc : (k : Int) + (c.length : Int) ≤ 1099511627776 := by omega
      have hfin : Hid ((k + c.length) + leftSum D (fun z => left z && !z.sameKey (.string x)) = fSum D) := Lib.hid (by omega)
      have hmeas : Hid (w2.rangeLeft b w.heap.size < wr.rangeLeft b w.heap.size) := Lib.hid (by rw [hrg2.left_eq, hr.out.left_eq]; exact hlt2)
      have hbel : Hid (Below w.heap.size w w2) := Lib.hid (hb.out.grown hg2 hb.out.size (fun j hj => by cases hj; exact Nat.le_refl _))
      replace hrg2 := Lib.hid hrg2
      clear hst hle2 hk' ex et ez ht hat hlk hkey hlt2 hv hs2 hg2
      unfold encStr strV at hen
      unfold encStr strV
      go_wp2
      go_roundw
      case rel => exact ⟨k + c.length, by go_num, _, _, hrg2.out, hfin.out, hbel.out⟩
      case measure => exact hmeas.out

/-! ### the closures -/
theorem max_80 {s : List UInt8} (h : s.length ≤ 80) : s.length ≤ maxLen := by unfold maxLen; omega
theorem max_24 {s : List UInt8} (h : s.length ≤ 16777216) : s.length ≤ maxLen := by unfold maxLen; omega
set_option maxHeartbeats 400000 in
theorem cl_remove (w : World) (b a : Nat) (D : DM) (s : List UInt8) (k : Int) (h : MapIs w b D) (ha : Blk w a 9 [strV s]) (hs : s.length ≤ 80) :
    Calls Tryz.prog 90 #[.map (some b), .int .i64 k, .pointer (some ⟨a, 0, none⟩)] w fun e w' => e = .returned (.tuple #[]) ∧ MapIs w' b ((DOp.remove s).act k D) ∧ Touch [b] w w' := by
  have c0 : w.cell? ⟨a, 0, none⟩ = some (strV s) := by rw [ha.cell]; rfl
  clear ha
  replace h := Lib.hid h
  go_enter Tryz.func90, Tryz.ntmps90
  go_wp2_with (at_delete; refine wpList_delete_own _ rfl (.tmp 5) (.tmp 6) 87 9 rfl 9 keyed Tryz.underlying87 (plainElem (H := Unit) Tryz.prog 9) b (fLen D) D rfl h.out (strV s) (.string s) rfl (keyStr s (max_80 hs)) ?_; intro w1 ho hm)
  exact bodyPost_end (v := .tuple #[]) (results_none (by rfl) _ _ _) rfl ⟨rfl, MapIs.of ho, Touch.grown hm.grown (by simp)⟩
set_option maxHeartbeats 400000 in
theorem cl_rename (w : World) (b a a' : Nat) (D : DM) (s t : List UInt8) (k : Int) (h : MapIs w b D) (hl : fLen D < 8796093022208) (ha : Blk w a 9 [strV s]) (ha' : Blk w a' 9 [strV t]) (hs : s.length ≤ 80) (ht : t.length ≤ 80) :
    Calls Tryz.prog 208 #[.map (some b), .int .i64 k, .pointer (some ⟨a, 0, none⟩), .pointer (some ⟨a', 0, none⟩)] w fun e w' => e = .returned (.tuple #[]) ∧ MapIs w' b ((DOp.rename s t).act k D) ∧ Touch [b] w w' := by
  have c0 : w.cell? ⟨a, 0, none⟩ = some (strV s) := by rw [ha.cell]; rfl
  have c1 : w.cell? ⟨a', 0, none⟩ = some (strV t) := by rw [ha'.cell]; rfl
  have hlook := h.look (max_80 hs)
  cases hh : fHas D s with
  | false =>
    have hact : Hid ((DOp.rename s t).act k D = D) := Lib.hid (by simp [DOp.act, hh])
    rw [hh] at hlook
    clear hh ha ha'
    replace h := Lib.hid h
    go_enter Tryz.func208, Tryz.ntmps208
    go_wp2
    refine bodyPost_end (v := .tuple #[]) (results_none (by rfl) _ _ _) rfl ⟨rfl, ?_, Touch.refl _ _⟩
    rw [hact.out]; exact h.out
  | true =>
    have hact : Hid ((DOp.rename s t).act k D = fPut (fDel D s) t (fS D s)) := Lib.hid (by simp [DOp.act, hh])
    have hle := fLen_del_le (k := s) h.str
    have htx := h.text_le (max_80 hs)
    have hb1 : a ≠ b := fun e => by
      obtain ⟨es, c, he⟩ := h.at
      subst e; unfold Blk at ha; rw [he] at ha; cases ha
    have hb2 : a' ≠ b := fun e => by
      obtain ⟨es, c, he⟩ := h.at
      subst e; unfold Blk at ha'; rw [he] at ha'; cases ha'
    rw [hh] at hlook
    replace h := Lib.hid h
    replace hle := Lib.hid hle
    replace ha := Lib.hid ha
    replace ha' := Lib.hid ha'
    replace hlook := Lib.hid hlook
    obtain ⟨x, hx⟩ : ∃ x, x = fS D s := ⟨_, rfl⟩
    rw [← hx] at hact hlook htx
    clear hh hx
    replace htx := Lib.hid htx
    have hlook' := hlook.out
    replace hb1 := Lib.hid hb1
    replace hb2 := Lib.hid hb2
    replace hl := Lib.hid hl
    go_enter Tryz.func208, Tryz.ntmps208
    go_wp2_with (first
      | (at_delete; refine wpList_delete_own _ rfl (.tmp 15) (.tmp 16) 87 9 rfl 9 keyed Tryz.underlying87 (plainElem (H := Unit) Tryz.prog 9) b (fLen D) D rfl h.out (strV s) (.string s) rfl (keyStr s (max_80 hs)) ?_; intro w1 ho hm; have c2 : w1.cell? ⟨a', 0, none⟩ = some (strV t) := (by rw [(ha'.out.grown hm.grown (by simpa using hb2.out)).cell]; rfl); replace ho := Lib.hid (MapIs.of ho); replace hm := Lib.hid hm)
      | (at_mapUpdate; refine wpList_mapUpdate_own _ rfl (.tmp 17) (.tmp 18) (.tmp 19) 87 rfl 9 9 keyed Tryz.underlying87 (plainElem (H := Unit) Tryz.prog 9) b (fLen (fDel D s)) (fDel D s) rfl ho.out (Nat.lt_of_le_of_lt hle.out (Nat.lt_of_lt_of_le hl.out (by unfold maxLen; omega))) (strV t) (strV x) (.string t) rfl rfl (keyStr t (max_80 ht)) (litS x) [] (elemStr x htx.out) ?_; intro w2 ho2 hm2; replace ho2 := Lib.hid (MapIs.of ho2); replace hm2 := Lib.hid hm2))
    refine bodyPost_end (v := .tuple #[]) (results_none (by rfl) _ _ _) rfl ⟨rfl, ?_, (Touch.grown (L := [b]) hm.out.grown (by simp)).trans (Touch.grown (L := [b]) hm2.out (by simp)) (fun i hi => .inl hi)⟩
    rw [hact.out]; exact ho2.out
theorem ext_take (t : List UInt8) (j : Nat) : (⟨t.toArray⟩ : ByteArray).extract 0 j = ⟨(t.take j).toArray⟩ := by
  apply ByteArray.ext
  simp
theorem cut_num (k : Int) (n : Nat) (h1 : 1 < k) : ∃ j : Nat, Int.tmod (k - 2) ((n : Int) + 1) = j ∧ ((k - 2) % ((n : Int) + 1)).toNat = j ∧ j ≤ n := by
  have h2 : 0 ≤ (k - 2) % ((n : Int) + 1) := Int.emod_nonneg _ (by omega)
  have h3 : (k - 2) % ((n : Int) + 1) < (n : Int) + 1 := Int.emod_lt_of_pos _ (by omega)
  refine ⟨((k - 2) % ((n : Int) + 1)).toNat, ?_, rfl, by omega⟩
  rw [Int.tmod_eq_emod_of_nonneg (by omega)]
  omega
set_option maxHeartbeats 1000000 in
theorem cl_write (w : World) (b a a' : Nat) (D : DM) (s t : List UInt8) (k : Int) (hk1 : k ≤ 9223372036854775807) (h : MapIs w b D) (hl : fLen D < 8796093022208) (ha : Blk w a 9 [strV t]) (ha' : Blk w a' 9 [strV s]) (hs : s.length ≤ 80) (ht : t.length ≤ 16777216) :
    Calls Tryz.prog 207 #[.map (some b), .int .i64 k, .pointer (some ⟨a, 0, none⟩), .pointer (some ⟨a', 0, none⟩)] w fun e w' => e = .returned (.tuple #[]) ∧ MapIs w' b ((DOp.write s t).act k D) ∧ Touch [b] w w' := by
  have c0 : w.cell? ⟨a, 0, none⟩ = some (strV t) := by rw [ha.cell]; rfl
  have c1 : w.cell? ⟨a', 0, none⟩ = some (strV s) := by rw [ha'.cell]; rfl
  have hl' : Hid (fLen D < maxLen) := Lib.hid (by unfold maxLen; omega)
  clear hl
  replace h := Lib.hid h
  clear ha ha'
  by_cases hk : 1 < k
  · obtain ⟨j, e1, e2, hj⟩ := cut_num k t.length hk
    have hact : Hid ((DOp.write s t).act k D = fPut D s (t.take j)) := Lib.hid (by simp only [DOp.act, cutT, if_pos hk, e2])
    have hjl : Hid ((t.take j).length ≤ maxLen) := Lib.hid (by rw [List.length_take]; unfold maxLen; omega)
    have e0 : IntKind.i64.wrap (k - 2) = k - 2 := IntWalk.i64_in _ (by omega)
    have e3 : IntKind.i64.wrap ((t.length : Int) + 1) = (t.length : Int) + 1 := IntWalk.i64_in _ (by omega)
    have b1 : (0 : Int) ≤ (j : Int) := by omega
    have b2 : (j : Int) ≤ (t.length : Int) := by omega
    clear hk1 e2
    unfold strV at c0
    go_enter Tryz.func207, Tryz.ntmps207
    go_wp2
    refine quiet_tail 10 (by kernel_rfl) (by kernel_rfl) ?_
    simp only [List.take_succ_cons, List.take_zero, List.drop_succ_cons, List.drop_zero]
    repeat (first
        | go_big_quiet_step (fail))
    refine wpQuiet_nil ?_
    rintro _ ⟨nq, rfl⟩
    rw [ext_take]
    refine wpList_mapUpdate_own _ rfl (.tmp 8) (.tmp 9) (.tmp 17) 87 rfl 9 9 keyed Tryz.underlying87 (plainElem (H := Unit) Tryz.prog 9) b (fLen D) D rfl h.out hl'.out (strV s) (strV (t.take j)) (.string s) rfl rfl (keyStr s (max_80 hs)) (litS (t.take j)) [] (elemStr _ hjl.out) ?_
    intro w2 ho2 hm2
    replace ho2 := Lib.hid (MapIs.of ho2)
    replace hm2 := Lib.hid hm2
    go_frame
    go_wp2
    refine bodyPost_ret (v := .tuple #[]) (results_none (by rfl) _ _ _) rfl ⟨rfl, ?_, (Touch.drewN nq).trans (Touch.grown (L := [b]) hm2.out (by simp)) (fun i hi => .inl hi)⟩
    rw [hact.out]; exact ho2.out
  · have hact : Hid ((DOp.write s t).act k D = fPut D s t) := Lib.hid (by simp only [DOp.act, cutT, if_neg hk])
    go_enter Tryz.func207, Tryz.ntmps207
    go_wp2_with (at_mapUpdate; refine wpList_mapUpdate_own _ rfl (.tmp 18) (.tmp 19) (.tmp 20) 87 rfl 9 9 keyed Tryz.underlying87 (plainElem (H := Unit) Tryz.prog 9) b (fLen D) D rfl h.out hl'.out (strV s) (strV t) (.string s) rfl rfl (keyStr s (max_80 hs)) (litS t) [] (elemStr t (max_24 ht)) ?_; intro w2 ho2 hm2; replace ho2 := Lib.hid (MapIs.of ho2); replace hm2 := Lib.hid hm2)
    refine bodyPost_end (v := .tuple #[]) (results_none (by rfl) _ _ _) rfl ⟨rfl, ?_, Touch.grown (L := [b]) hm2.out (by simp)⟩
    rw [hact.out]; exact ho2.out
end Go.Proofs.YtamdhaoglapnnaaGreatDoor
end

section
/- The walk of does: a call is done, and is pending from then on. -/
namespace Go.Proofs.YtamdhaoglapnnaaGreatDoor
open Go.RowKit Go.Maps Go.Sort

theorem callI : InfoOf Tryz.prog 145 (.agg #[.nilFunc]) 1 8 := ⟨callInfo, by simp [Value.cells], by omega⟩
/-- What does leaves. -/
def DoesTo (w : World) (g bn bs : Nat) (v : Value) (S : DS) (w' : World) : Prop := ∃ v', DiskAt w' g bn bs v' S ∧ Touch (foot g bn bs v) w w' ∧ (v'.ownBlock = v.ownBlock ∨ ∀ b, v'.ownBlock = some b → w.heap.size ≤ b)
theorem DoesTo.turned {w w' : World} {g bn bs : Nat} {v : Value} {S : DS} (h : DoesTo w g bn bs v S w') : Turned w (foot g bn bs v) g S w' := by
  obtain ⟨v', hd, ht, hv⟩ := h
  refine ⟨ht, _, ⟨bn, bs, v', hd, rfl⟩, fun i hi => ?_⟩
  rcases DiskAt.mem_foot hi with rfl | rfl | rfl | e
  · simp [foot]
  · simp [foot]
  · simp [foot]
  · rcases hv with hv | hv
    · rw [hv] at e; left; simp [foot, e]
    · exact .inr (hv i e)
/-- A disk whose map of now has been written by a pending call. -/
theorem DiskAt.wrote {w w' : World} {g bn bs : Nat} {v : Value} {S : DS} {D : DM} (h : DiskAt w g bn bs v S) (ht : Touch [bn] w w') (hm : MapIs w' bn D) : DiskAt w' g bn bs v { S with now := D } := by
  have hg := h.gne
  have hnb : ∀ i cs t, Blk w i t cs → i ≠ bn := fun i cs t hc e => by
    obtain ⟨es, c, he⟩ := h.now.at
    subst e; unfold Blk at hc; rw [he] at hc; cases hc
  obtain ⟨vs, ho, hop⟩ := h.row
  refine ⟨h.blk.touch ht (by simpa using hnb g _ _ h.blk), hm, h.sure.touch ht (by simpa using h.ne.symm), h.ne, vs, own_touch ho ht (fun b hb => ?_), hop.touch ht (fun i hi cs hc => hnb i cs _ hc (by simpa using hi))⟩
  rcases ho.2 with ⟨rfl, _⟩ | ⟨g', cap, cur, rfl, _, hg', _⟩
  · cases hb
  · have : g' = b := by simpa [Value.ownBlock] using hb
    subst this
    have := hnb g' cur.toList _ (show Blk w g' _ _ from by unfold Blk; simpa using hg')
    simpa using this
/-- .. and whose row of pending calls has grown. -/
theorem DiskAt.rowed {w w' : World} {g bn bs : Nat} {v v' : Value} {S : DS} {o : DOp} {vs : List Value} (h : DiskAt w g bn bs v S) (hg : w.grownBy w' v.ownBlock) (ho : w'.ownsRow 0 145 1 v' (S.pend.length + 1) vs) (hop : OpsAre w (S.pend ++ [o]) vs)
    {w2 : World} (h2 : w2 = w'.setCell ⟨g, 2, none⟩ v') : DiskAt w2 g bn bs v' { S with pend := S.pend ++ [o] } := by
  subst h2
  have ht : Touch (v.ownBlock.toList) w w' := Touch.grown hg (fun b hb => by simp [hb])
  have hgne := h.gne
  have hnb : NoBox w v.ownBlock.toList := fun i hi => h.noBox i (by simp [foot]; right; right; right; simpa using hi)
  obtain ⟨vs0, hr, _⟩ := h.row
  have hmap : ∀ b D, MapIs w b D → b ∉ v.ownBlock.toList := fun b D hm hb => by
    rcases hr.2 with ⟨rfl, _⟩ | ⟨g', cap, cur, rfl, _, hg', _⟩
    · cases hb
    · have : g' = b := by simpa [Value.ownBlock, eq_comm] using hb
      subst this
      obtain ⟨es, c, he⟩ := hm.at
      rw [he] at hg'; cases hg'
  have hb1 : Blk w' g 90 (dCells bn bs v S) := h.blk.touch ht (fun hb => hgne g (by simp only [List.mem_cons]; right; right; exact hb) rfl)
  have n1 := h.now.touch ht (hmap _ _ h.now)
  have s1 := h.sure.touch ht (hmap _ _ h.sure)
  have ht2 : Touch [g] w' (w'.setCell ⟨g, 2, none⟩ v') := Touch.setCell _ (by simp)
  refine ⟨hb1.set_ 2 v', n1.touch ht2 (by simpa using hgne bn (by simp)), s1.touch ht2 (by simpa using hgne bs (by simp)), h.ne, vs, ?_, (hop.touch ht hnb).touch ht2 (fun i hi cs hc => by
      have : i = g := by simpa using hi
      subst this
      exact hb1.ne_ hc (by decide) rfl)⟩
  have hv' : w'.ownsRow 0 145 1 v' (S.pend ++ [o]).length vs := by simpa using ho
  refine own_touch hv' ht2 (fun b hb e => ?_)
  have : b = g := by simpa using e
  subst this
  rcases ho.2 with ⟨rfl, _⟩ | ⟨g', cap, cur, rfl, _, hg', _⟩
  · cases hb
  · have : g' = b := by simpa [Value.ownBlock] using hb
    subst this
    unfold Blk at hb1
    rw [hg'] at hb1
    injection hb1 with hb1
    injection hb1 with _ ht
    exact absurd ht (by decide)

/-- A closure, called on a map. -/
theorem cl_any (w : World) (b : Nat) (D : DM) (o : DOp) (cl : Value) (k : Int) (hk : k ≤ 9223372036854775807) (h : MapIs w b D) (hl : fLen D < 8796093022208) (hcl : OpIs w o cl) (hok : o.ok) :
    ∃ fn cap, cl = .func (.func fn) #[] cap ∧ Enters Tryz.prog fn ∧ Calls Tryz.prog fn (#[.map (some b), .int .i64 k] ++ cap) w fun e w' => e = .returned (.tuple #[]) ∧ MapIs w' b (o.act k D) ∧ Touch [b] w w' := by
  cases o with
  | write s t =>
    obtain ⟨a, a', rfl, h1, h2⟩ := hcl
    exact ⟨_, _, rfl, enters_of Tryz.func207 (by kernel_rfl) rfl, cl_write w b a a' D s t k hk h hl h1 h2 hok.1 hok.2⟩
  | remove s =>
    obtain ⟨a, rfl, h1⟩ := hcl
    exact ⟨_, _, rfl, enters_of Tryz.func90 (by kernel_rfl) rfl, cl_remove w b a D s k h h1 hok⟩
  | rename s t =>
    obtain ⟨a, a', rfl, h1, h2⟩ := hcl
    exact ⟨_, _, rfl, enters_of Tryz.func208 (by kernel_rfl) rfl, cl_rename w b a a' D s t k h hl h1 h2 hok.1 hok.2⟩
set_option maxRecDepth 100000 in
set_option maxHeartbeats 1000000 in
theorem does_any (g bn bs : Nat) (v : Value) (S : DS) (o : DOp) (cl : Value) (w : World) (h : DiskAt w g bn bs v S) (hcl : OpIs w o cl) (hok : o.ok) (hl : fLen S.now < 8796093022208) (hp : S.pend.length < 4398046511104) :
    Calls Tryz.prog 89 #[.pointer (some ⟨g, 0, none⟩), cl] w fun e w' => e = .returned (.int .i64 0) ∧ DoesTo w g bn bs v (S.does o) w' := by
  have c0 : w.cell? ⟨g, 0, none⟩ = some (.map (some bn)) := by rw [h.blk.cell]; rfl
  obtain ⟨fn, cap, rfl, hen, hc⟩ := cl_any w bn S.now o cl 1 (by omega) h.now hl hcl hok
  replace hcl := Lib.hid hcl
  replace hen := Lib.hid hen
  replace hc := Lib.hid hc
  replace h := Lib.hid h
  clear hl
  go_enter Tryz.func89, Tryz.ntmps89
  go_wp2_with fail
  rw [hen.out, Oper.upon_enter]
  refine hc.out.mono ?_
  rintro e w1 ⟨rfl, hm1, ht1⟩
  have hd1 := h.out.wrote ht1 hm1
  have hnb1 : NoBox w [bn] := fun i hi => h.out.noBox i (by simp [foot]; right; left; simpa using hi)
  have hop1 := Lib.hid (hcl.out.touch ht1 hnb1)
  clear hnb1
  obtain ⟨vs, hrow, hops⟩ := hd1.row
  have c2 : w1.cell? ⟨g, 2, none⟩ = some v := by rw [hd1.blk.cell]; rfl
  have z2 := hd1.blk.frozen 2
  have hlt := hd1.blk.lt
  replace hd1 := Lib.hid hd1
  replace ht1 := Lib.hid ht1
  replace hrow := Lib.hid hrow
  replace hops := Lib.hid hops
  clear hm1 c0
  have hgn : Hid (some g ≠ v.ownBlock) := Lib.hid (fun e => hd1.out.gne g (by simp [← e]) rfl)
  have hone : Hid (∀ u ∈ [Value.func (.func fn) #[] cap], u.oneCell' = true) := Lib.hid (fun u hu => by rw [List.mem_singleton.1 hu]; exact hop1.out.one)
  go_wp2_with (at_builtin; refine wpList_append_rd _ rfl (.tmp 15) (.tmp 18) 88 rfl 0 145 (.agg #[.nilFunc]) 1 8 Tryz.underlying88 callI v S.pend.length vs rfl (hrow.out.alloc _) (fun _ => True) (some ⟨w1.heap.size, 0, none⟩) 1 1 [.func (.func fn) #[] cap] rfl rfl (Rd.of_blk (cs := [.func (.func fn) #[] cap]) (r := []) (Blk.new_at rfl) rfl trivial) hone.out (by unfold maxLen; omega) (by omega) (Nat.zero_le _) ?_; intro v' w2 hrow2 hg2 hv2; obtain ⟨A', cap', rfl, _, _⟩ := own_form hrow2; have hB2 := (hd1.out.blk.alloc _).grown hg2 hgn.out; have z3 := hB2.frozen 2; have c3 : w2.cell? ⟨g, 2, none⟩ = some v := (by rw [hB2.cell]; rfl); replace hB2 := Lib.hid hB2; replace hrow2 := Lib.hid hrow2; replace hg2 := Lib.hid hg2; replace hv2 := Lib.hid hv2; go_frame)
  go_ret
  have hb1 : Below w1.heap.size w1 (w1.alloc (Obj.cells #[Value.func (Fn.func fn) #[] cap] 145)) := (Below.refl _ _).alloc (Nat.le_refl _) _
  have hd2 := hd1.out.below hb1
  have ht2 := Touch.ofBelow (L := []) hb1
  have hops2 : OpsAre (w1.alloc (Obj.cells #[Value.func (Fn.func fn) #[] cap] 145)) (S.pend ++ [o]) (vs ++ [.func (.func fn) #[] cap]) := (hops.out.snoc hop1.out).touch ht2 (by simp [NoBox])
  refine ⟨rfl, _, hd2.rowed hg2.out hrow2.out hops2 rfl, ?_, ?_⟩
  · refine (ht1.out.mono (L' := foot g bn bs v) (fun i hi => .inl (by have : i = bn := (by simpa using hi); rw [this]; simp [foot]))).trans (L' := foot g bn bs v) ?_ (fun i hi => .inl hi)
    refine (Touch.ofBelow hb1).trans (L' := foot g bn bs v) ?_ (fun i hi => .inl hi)
    exact (Touch.grown (L := foot g bn bs v) hg2.out (fun b hb => by simp [foot, hb])).trans (Touch.setCell (L := foot g bn bs v) _ (by simp [foot])) (fun i hi => .inl hi)
  · rcases hv2.out with hv | hv
    · exact .inl hv
    · right
      intro b hb
      rw [hv] at hb
      have := ht1.out.size
      simp at hb
      omega
end Go.Proofs.YtamdhaoglapnnaaGreatDoor
end

section
/- The walks of Write, Remove, Rename. -/
namespace Go.Proofs.YtamdhaoglapnnaaGreatDoor
open Go.RowKit Go.Maps Go.Sort

theorem tick_now (S : DS) : S.tick.now = S.now := by unfold DS.tick; split <;> rfl
theorem tick_sure (S : DS) : S.tick.sure = S.sure := by unfold DS.tick; split <;> rfl
theorem tick_pend (S : DS) : S.tick.pend = S.pend := by unfold DS.tick; split <;> rfl
theorem tick_room (S : DS) : S.tick.room = S.room := by unfold DS.tick; split <;> rfl
theorem over_cell {w : World} {p : Addr} {v : Value} (h : w.cell? p = some v) (s : Over w) : s.1.cell? p = some v := by
  rw [s.2.cell (World.block_lt_of_cell? _ _ h)]; exact h
theorem MapIs.over {w : World} {b : Nat} {D : DM} (h : MapIs w b D) (s : Over w) : MapIs s.1 b D := h.block (s.2.block b h.lt)
/-- What a writing call asks. -/
structure Asked (S : DS) : Prop extends S.Good where
  few2 : S.pend.length < 4398046511104
theorem boxedD {w : World} (s : List UInt8) : Blk (w.alloc (.cells #[strV s] 9)) w.heap.size 9 [strV s] := Blk.new_at (cs := [strV s]) rfl
theorem Touch.box {w w' : World} {g b : Nat} {t : TypeId} {cs cs' : List Value} (h : Blk w b t cs) (hg : Blk w g 90 cs') (ht : Touch [g] w w') (hne : t ≠ 90) : Blk w' b t cs :=
  h.touch ht (by have := h.ne_ hg hne; simpa using this)

set_option maxRecDepth 100000 in
set_option maxHeartbeats 2000000 in
theorem dwrite_any (g bn bs : Nat) (v : Value) (S : DS) (s t : List UInt8) (w : World) (h : DiskAt w g bn bs v S) (hA : Asked S) (hs : s.length ≤ 140737488355328) (ht : t.length ≤ 140737488355328) :
    Calls Tryz.prog 135 #[.pointer (some ⟨g, 0, none⟩), strV s, strV t] w fun e w' => e = .returned (.int .i64 ((Call.write s t).errno S)) ∧ Turned w (foot g bn bs v) g ((Call.write s t).turn S) w' := by
  have hbl : Below w.heap.size w ((w.alloc (.cells #[strV s] 9)).alloc (.cells #[strV t] 9)) := ((Below.refl _ _).alloc (Nat.le_refl _) _).alloc (by simp) _
  have hB1 : Blk ((w.alloc (.cells #[strV s] 9)).alloc (.cells #[strV t] 9)) w.heap.size 9 [strV s] := (boxedD s).alloc _
  have hB2 : Blk ((w.alloc (.cells #[strV s] 9)).alloc (.cells #[strV t] 9)) (w.heap.size + 1) 9 [strV t] := Blk.new_at (cs := [strV t]) (by simp)
  have hd0 := h.below hbl
  have hA' := Lib.hid hA
  replace h := Lib.hid h
  go_enter Tryz.func135, Tryz.ntmps135
  go_wp2_with fail
  generalize ((w.alloc (.cells #[strV s] 9)).alloc (.cells #[strV t] 9)) = w0 at hbl hB1 hB2 hd0 ⊢
  refine (power_write g bn bs v S w0 hd0 hA.fuse0 hA.fuse1).mono ?_
  rintro e w1 ⟨rfl, hd1, ht1, hz1⟩
  have hB1' := hB1.touch ht1 (by have := hB1.ne_ hd0.blk (by decide); simpa using this)
  have hB2' := hB2.touch ht1 (by have := hB2.ne_ hd0.blk (by decide); simpa using this)
  have htt : Touch (foot g bn bs v) w w1 := (Touch.ofBelow hbl).trans ht1 (fun i hi => .inl (by have : i = g := (by simpa using hi); rw [this]; simp [foot]))
  have hend : ∀ w', Below w1.heap.size w1 w' → Turned w (foot g bn bs v) g S.tick w' := fun w' hb => Turned.then htt (fun i hi => .inl hi) (Turned.same ⟨bn, bs, v, hd1, rfl⟩ hb)
  replace hend := Lib.hid hend
  clear hbl hB1 hB2 hd0 ht1 hz1
  cases ho : S.tick.off with
  | true =>
    have hp : Hid (S.powE = 15) := Lib.hid (by simp [DS.powE, ho])
    have he : Hid ((Call.write s t).errno S = 15) := Lib.hid (by simp [Call.errno, ho])
    have hu : Hid ((Call.write s t).turn S = S.tick) := Lib.hid (by simp [Call.turn, ho])
    rw [hp.out]
    clear hA ho htt hd1 hB1' hB2'
    go_wp2
    go_ret
    rw [hu.out]
    exact ⟨dret_int he.out.symm, hend.out _ (Below.refl _ _)⟩
  | false =>
    have hp : Hid (S.powE = 0) := Lib.hid (by simp [DS.powE, ho])
    rw [hp.out]
    have k1 : w1.cell? ⟨w.heap.size, 0, none⟩ = some (strV s) := by rw [hB1'.cell]; rfl
    have k2 : w1.cell? ⟨w.heap.size + 1, 0, none⟩ = some (strV t) := by rw [hB2'.cell]; rfl
    have hnm := Lib.hid (fun w => name_any s w hs)
    cases hn : nameB s with
    | false =>
      have he : Hid ((Call.write s t).errno S = 11) := Lib.hid (by simp [Call.errno, ho, Call.err, hn])
      have hu : Hid ((Call.write s t).turn S = S.tick) := Lib.hid (by simp [Call.turn, ho, Call.err, hn])
      rw [hn] at hnm
      clear hA ho htt hd1 hB1' hB2' hn
      go_wp2_with fail
      refine (hnm.out _).mono ?_
      rintro e w' ⟨rfl, rfl⟩
      go_wp2
      go_ret
      rw [hu.out]
      exact ⟨dret_int he.out.symm, hend.out _ (Below.refl _ _)⟩
    | true =>
      rw [hn] at hnm
      have hM := hd1.now
      have c0 : w1.cell? ⟨g, 0, none⟩ = some (.map (some bn)) := by rw [hd1.blk.cell]; rfl
      have c3 : w1.cell? ⟨g, 3, none⟩ = some (.int .i64 S.room) := by rw [hd1.blk.cell]; show some (Value.int .i64 S.tick.room) = _; rw [tick_room]
      rw [tick_now] at hM
      have hs80 : s.length ≤ 80 := by simp [nameB] at hn; exact hn.2
      have q0 := fun s' => over_cell c0 s'
      have q1 := fun s' => over_cell k1 s'
      have hlook : ∀ s' : Over w1, (Instr.lookup 87 (.map (some bn)) (strV s) true).run Tryz.prog s'.1 = .ok (.tuple #[strV (fS S.now s), .bool (fHas S.now s)]) s'.1 := fun s' => (hM.over s').look (max_80 hs80)
      have hdoes := Lib.hid (does_any g bn bs v S.tick (.write s t))
      have htl := hM.text_le (max_80 hs80)
      have hsum : fSum S.now ≤ 16777216 := by have := hA.sum; have := hA.room1; omega
      have hxs : (fS S.now s).length ≤ fSum S.now := by have := fSum_del (k := s) hA.now; omega
      have hfew := hA.few
      have hr0 := hA.room0
      have hr1 := hA.room1
      obtain ⟨x, hx⟩ : ∃ x, x = fS S.now s := ⟨_, rfl⟩
      obtain ⟨hb, hhb⟩ : ∃ hb, hb = fHas S.now s := ⟨_, rfl⟩
      obtain ⟨m, hm⟩ : ∃ m, m = fSum S.now := ⟨_, rfl⟩
      obtain ⟨n, hnn⟩ : ∃ n, n = fLen S.now := ⟨_, rfl⟩
      obtain ⟨r, hr⟩ : ∃ r, r = S.room := ⟨_, rfl⟩
      rw [← hx, ← hhb] at hlook
      rw [← hx, ← hm] at hxs
      rw [← hx] at htl
      rw [← hm] at hsum
      rw [← hnn] at hfew
      rw [← hr] at hr0 hr1 c3
      have hfb : Hid (fullB S.tick s t = (decide (r - (t.length : Int) < (m : Int) - (x.length : Int)) || decide (600 < n + (if hb then 0 else 1)))) := Lib.hid (by rw [hr, hm, hx, hnn, hhb]; unfold fullB; rw [tick_now, tick_room])
      have hsz : Hid (∀ s' : Over w1, Calls Tryz.prog 206 #[.map (some bn)] s'.1 fun e w' => e = .returned (.int .i64 (m : Int)) ∧ Below s'.1.heap.size s'.1 w') := Lib.hid (fun s' => by rw [hm]; exact size_any s'.1 bn S.now (hM.over s') (by omega))
      have hln : Hid (∀ s' : Over w1, s'.1.ownsMap Tryz.prog 9 (plainElem (H := Unit) Tryz.prog 9) bn n S.now) := Lib.hid (fun s' => by rw [hnn]; exact hM.over s')
      have hln' : Hid (Maps.size S.now = n) := Lib.hid hnn.symm
      replace hx := Lib.hid hx
      replace hhb := Lib.hid hhb
      replace hm := Lib.hid hm
      replace hnn := Lib.hid hnn
      replace hr := Lib.hid hr
      replace hd1 := Lib.hid hd1
      replace hB1' := Lib.hid hB1'
      replace hB2' := Lib.hid hB2'
      replace htt := Lib.hid htt
      replace htl := Lib.hid htl
      replace ho := Lib.hid ho
      replace hM := Lib.hid hM
      have hN := Lib.hid hn
      have q2 := fun s' => over_cell k2 s'
      have q3 := fun s' => over_cell c3 s'
      have e1 : IntKind.i64.wrap ((m : Int) - (x.length : Int)) = (m : Int) - (x.length : Int) := IntWalk.i64_in _ (by omega)
      have e2 : IntKind.i64.wrap (r - (t.length : Int)) = r - (t.length : Int) := IntWalk.i64_in _ (by omega)
      clear hA c0 c3 hn
      cases hb with
      | true =>
        go_wp2_with fail
        refine (hnm.out _).mono ?_
        rintro e w' ⟨rfl, rfl⟩
        go_wp2_with fail
        clear k1 k2
        haveI := over_nonempty w1
        refine quiet_over (by kernel_rfl) (by kernel_rfl) ?_
        repeat (first | go_big_quiet_step (fail))
        refine wpQuiet_nil ?_
        rintro _ ⟨s6, rfl⟩
        have q0' := q0 s6
        go_wp2_with (at_len; refine wpList_len_own _ rfl (.tmp 31) 87 rfl 9 9 Tryz.underlying87 (plainElem (H := Unit) Tryz.prog 9) bn n S.now rfl (hln.out s6) ?_; rw [hln'.out]; go_frame)
        have p0 := fun s' : Over s6.1 => over_cell (q0 s6) s'
        have p2 := fun s' : Over s6.1 => over_cell (q2 s6) s'
        have p3 := fun s' : Over s6.1 => over_cell (q3 s6) s'
        have hsz' : Hid (∀ s' : Over s6.1, Calls Tryz.prog 206 #[.map (some bn)] s'.1 fun e w' => e = .returned (.int .i64 (m : Int)) ∧ Below s'.1.heap.size s'.1 w') := Lib.hid (fun s' => hsz.out ⟨s'.1, s6.2.trans (s'.2.mono s6.2.size)⟩)
        clear q0 q1 q2 q3 hlook hsz q0'
        haveI := over_nonempty s6.1
        unfold strV at p2 ⊢
        by_cases hc : r - (t.length : Int) < (m : Int) - (x.length : Int)
        · have d1 : decide (r - (t.length : Int) < (m : Int) - (x.length : Int)) = true := by simpa using hc
          have hF : Hid (fullB S.tick s t = true) := Lib.hid (by rw [hfb.out, d1]; rfl)
          clear hc
          refine quiet_over (by kernel_rfl) (by kernel_rfl) ?_
          repeat (first | go_big_quiet_step (first | (go_at_call 206; exact calls_over _ (hsz'.out _))))
          refine wpQuiet_nil ?_
          rintro _ ⟨s7, rfl⟩
          go_wp2
          go_ret
          refine ⟨dret_int (by simp [Call.errno, ho.out, Call.err, hN.out, hF.out]), ?_⟩
          rw [show (Call.write s t).turn S = S.tick from by simp [Call.turn, ho.out, Call.err, hN.out, hF.out]]
          exact hend.out _ (s6.2.trans (s7.2.mono s6.2.size))
        · have d1 : decide (r - (t.length : Int) < (m : Int) - (x.length : Int)) = false := by simpa using hc
          have htr : Hid (t.length ≤ 16777216) := Lib.hid (by omega)
          clear hc
          by_cases hd : 600 < n
          · have d2 : decide ((600 : Int) < (n : Int)) = true := by simp; omega
            have hF : Hid (fullB S.tick s t = true) := Lib.hid (by rw [hfb.out, d1]; simp; omega)
            clear hd
            refine quiet_over (by kernel_rfl) (by kernel_rfl) ?_
            repeat (first | go_big_quiet_step (first | (go_at_call 206; exact calls_over _ (hsz'.out _))))
            refine wpQuiet_nil ?_
            rintro _ ⟨s7, rfl⟩
            go_wp2
            go_ret
            refine ⟨dret_int (by simp [Call.errno, ho.out, Call.err, hN.out, hF.out]), ?_⟩
            rw [show (Call.write s t).turn S = S.tick from by simp [Call.turn, ho.out, Call.err, hN.out, hF.out]]
            exact hend.out _ (s6.2.trans (s7.2.mono s6.2.size))
          · have d2 : decide ((600 : Int) < (n : Int)) = false := by simp; omega
            have hF : Hid (fullB S.tick s t = false) := Lib.hid (by rw [hfb.out, d1]; simp; omega)
            clear hd
            refine quiet_over (by kernel_rfl) (by kernel_rfl) ?_
            repeat (first | go_big_quiet_step (first | (go_at_call 206; exact calls_over _ (hsz'.out _))))
            refine wpQuiet_nil ?_
            rintro _ ⟨s7, rfl⟩
            have hb7 : Below w1.heap.size w1 s7.1 := s6.2.trans (s7.2.mono s6.2.size)
            have hB1q := hB1'.out.below hb7 hB1'.out.lt
            have hB2q := hB2'.out.below hb7 hB2'.out.lt
            have hd7 := hd1.out.below hb7
            replace hb7 := Lib.hid hb7
            replace hB1q := Lib.hid hB1q
            replace hB2q := Lib.hid hB2q
            replace hd7 := Lib.hid hd7
            go_wp2_with fail
            refine (hdoes.out _ _ hd7.out ⟨_, _, rfl, hB2q.out, hB1q.out⟩ ⟨hs80, htr.out⟩ (by rw [tick_now, ← hnn.out]; omega) (by rw [tick_pend]; exact hA'.out.few2)).mono ?_
            rintro e w8 ⟨rfl, hD8⟩
            replace hD8 := Lib.hid hD8
            go_wp2
            go_ret
            refine ⟨dret_int (by simp [Call.errno, ho.out, Call.err, hN.out, hF.out]), ?_⟩
            rw [show (Call.write s t).turn S = S.tick.does (.write s t) from by simp [Call.turn, ho.out, Call.err, hN.out, hF.out, Call.done]]
            exact Turned.then (htt.out.trans (Touch.ofBelow (L := foot g bn bs v) hb7.out) (fun i hi => .inl hi)) (fun i hi => .inl hi) hD8.out.turned
      | false =>
        go_wp2_with fail
        refine (hnm.out _).mono ?_
        rintro e w' ⟨rfl, rfl⟩
        go_wp2_with fail
        clear k1 k2
        haveI := over_nonempty w1
        refine quiet_over (by kernel_rfl) (by kernel_rfl) ?_
        repeat (first | go_big_quiet_step (fail))
        refine wpQuiet_nil ?_
        rintro _ ⟨s6, rfl⟩
        have q0' := q0 s6
        go_wp2_with (at_len; refine wpList_len_own _ rfl (.tmp 31) 87 rfl 9 9 Tryz.underlying87 (plainElem (H := Unit) Tryz.prog 9) bn n S.now rfl (hln.out s6) ?_; rw [hln'.out]; go_frame)
        have p0 := fun s' : Over s6.1 => over_cell (q0 s6) s'
        have p2 := fun s' : Over s6.1 => over_cell (q2 s6) s'
        have p3 := fun s' : Over s6.1 => over_cell (q3 s6) s'
        have hsz' : Hid (∀ s' : Over s6.1, Calls Tryz.prog 206 #[.map (some bn)] s'.1 fun e w' => e = .returned (.int .i64 (m : Int)) ∧ Below s'.1.heap.size s'.1 w') := Lib.hid (fun s' => hsz.out ⟨s'.1, s6.2.trans (s'.2.mono s6.2.size)⟩)
        clear q0 q1 q2 q3 hlook hsz q0'
        haveI := over_nonempty s6.1
        unfold strV at p2 ⊢
        by_cases hc : r - (t.length : Int) < (m : Int) - (x.length : Int)
        · have d1 : decide (r - (t.length : Int) < (m : Int) - (x.length : Int)) = true := by simpa using hc
          have hF : Hid (fullB S.tick s t = true) := Lib.hid (by rw [hfb.out, d1]; rfl)
          clear hc
          refine quiet_over (by kernel_rfl) (by kernel_rfl) ?_
          repeat (first | go_big_quiet_step (first | (go_at_call 206; exact calls_over _ (hsz'.out _))))
          refine wpQuiet_nil ?_
          rintro _ ⟨s7, rfl⟩
          go_wp2
          go_ret
          refine ⟨dret_int (by simp [Call.errno, ho.out, Call.err, hN.out, hF.out]), ?_⟩
          rw [show (Call.write s t).turn S = S.tick from by simp [Call.turn, ho.out, Call.err, hN.out, hF.out]]
          exact hend.out _ (s6.2.trans (s7.2.mono s6.2.size))
        · have d1 : decide (r - (t.length : Int) < (m : Int) - (x.length : Int)) = false := by simpa using hc
          have htr : Hid (t.length ≤ 16777216) := Lib.hid (by omega)
          clear hc
          by_cases hd : 600 < n + 1
          · have d2 : decide ((600 : Int) < (n : Int) + 1) = true := by simp; omega
            have hF : Hid (fullB S.tick s t = true) := Lib.hid (by rw [hfb.out, d1]; simp; omega)
            clear hd
            refine quiet_over (by kernel_rfl) (by kernel_rfl) ?_
            repeat (first | go_big_quiet_step (first | (go_at_call 206; exact calls_over _ (hsz'.out _))))
            refine wpQuiet_nil ?_
            rintro _ ⟨s7, rfl⟩
            go_wp2
            go_ret
            refine ⟨dret_int (by simp [Call.errno, ho.out, Call.err, hN.out, hF.out]), ?_⟩
            rw [show (Call.write s t).turn S = S.tick from by simp [Call.turn, ho.out, Call.err, hN.out, hF.out]]
            exact hend.out _ (s6.2.trans (s7.2.mono s6.2.size))
          · have d2 : decide ((600 : Int) < (n : Int) + 1) = false := by simp; omega
            have hF : Hid (fullB S.tick s t = false) := Lib.hid (by rw [hfb.out, d1]; simp; omega)
            clear hd
            refine quiet_over (by kernel_rfl) (by kernel_rfl) ?_
            repeat (first | go_big_quiet_step (first | (go_at_call 206; exact calls_over _ (hsz'.out _))))
            refine wpQuiet_nil ?_
            rintro _ ⟨s7, rfl⟩
            have hb7 : Below w1.heap.size w1 s7.1 := s6.2.trans (s7.2.mono s6.2.size)
            have hB1q := hB1'.out.below hb7 hB1'.out.lt
            have hB2q := hB2'.out.below hb7 hB2'.out.lt
            have hd7 := hd1.out.below hb7
            replace hb7 := Lib.hid hb7
            replace hB1q := Lib.hid hB1q
            replace hB2q := Lib.hid hB2q
            replace hd7 := Lib.hid hd7
            go_wp2_with fail
            refine (hdoes.out _ _ hd7.out ⟨_, _, rfl, hB2q.out, hB1q.out⟩ ⟨hs80, htr.out⟩ (by rw [tick_now, ← hnn.out]; omega) (by rw [tick_pend]; exact hA'.out.few2)).mono ?_
            rintro e w8 ⟨rfl, hD8⟩
            replace hD8 := Lib.hid hD8
            go_wp2
            go_ret
            refine ⟨dret_int (by simp [Call.errno, ho.out, Call.err, hN.out, hF.out]), ?_⟩
            rw [show (Call.write s t).turn S = S.tick.does (.write s t) from by simp [Call.turn, ho.out, Call.err, hN.out, hF.out, Call.done]]
            exact Turned.then (htt.out.trans (Touch.ofBelow (L := foot g bn bs v) hb7.out) (fun i hi => .inl hi)) (fun i hi => .inl hi) hD8.out.turned
end Go.Proofs.YtamdhaoglapnnaaGreatDoor
end

section
/- The walks of Remove and Rename. -/
namespace Go.Proofs.YtamdhaoglapnnaaGreatDoor
open Go.RowKit Go.Maps Go.Sort

set_option maxRecDepth 100000 in
set_option maxHeartbeats 2000000 in
theorem remove_any (g bn bs : Nat) (v : Value) (S : DS) (s : List UInt8) (w : World) (h : DiskAt w g bn bs v S) (hA : Asked S) (hs : s.length ≤ 140737488355328) :
    Calls Tryz.prog 56 #[.pointer (some ⟨g, 0, none⟩), strV s] w fun e w' => e = .returned (.int .i64 ((Call.remove s).errno S)) ∧ Turned w (foot g bn bs v) g ((Call.remove s).turn S) w' := by
  have hbl : Below w.heap.size w (w.alloc (.cells #[strV s] 9)) := (Below.refl _ _).alloc (Nat.le_refl _) _
  have hB1 : Blk (w.alloc (.cells #[strV s] 9)) w.heap.size 9 [strV s] := boxedD s
  have hd0 := h.below hbl
  have hA' := Lib.hid hA
  replace h := Lib.hid h
  go_enter Tryz.func56, Tryz.ntmps56
  go_wp2_with fail
  generalize (w.alloc (.cells #[strV s] 9)) = w0 at hbl hB1 hd0 ⊢
  refine (power_write g bn bs v S w0 hd0 hA.fuse0 hA.fuse1).mono ?_
  rintro e w1 ⟨rfl, hd1, ht1, hz1⟩
  have hB1' := hB1.touch ht1 (by have := hB1.ne_ hd0.blk (by decide); simpa using this)
  have htt : Touch (foot g bn bs v) w w1 := (Touch.ofBelow hbl).trans ht1 (fun i hi => .inl (by have : i = g := (by simpa using hi); rw [this]; simp [foot]))
  have hend : ∀ w', Below w1.heap.size w1 w' → Turned w (foot g bn bs v) g S.tick w' := fun w' hb => Turned.then htt (fun i hi => .inl hi) (Turned.same ⟨bn, bs, v, hd1, rfl⟩ hb)
  replace hend := Lib.hid hend
  clear hbl hB1 hd0 ht1 hz1
  cases ho : S.tick.off with
  | true =>
    have hp : Hid (S.powE = 15) := Lib.hid (by simp [DS.powE, ho])
    have he : Hid ((Call.remove s).errno S = 15) := Lib.hid (by simp [Call.errno, ho])
    have hu : Hid ((Call.remove s).turn S = S.tick) := Lib.hid (by simp [Call.turn, ho])
    rw [hp.out]
    clear hA ho htt hd1 hB1' 
    go_wp2
    go_ret
    rw [hu.out]
    exact ⟨dret_int he.out.symm, hend.out _ (Below.refl _ _)⟩
  | false =>
    have hp : Hid (S.powE = 0) := Lib.hid (by simp [DS.powE, ho])
    rw [hp.out]
    have k1 : w1.cell? ⟨w.heap.size, 0, none⟩ = some (strV s) := by rw [hB1'.cell]; rfl
    have hnm := Lib.hid (fun w => name_any s w hs)
    cases hn : nameB s with
    | false =>
      have he : Hid ((Call.remove s).errno S = 11) := Lib.hid (by simp [Call.errno, ho, Call.err, hn])
      have hu : Hid ((Call.remove s).turn S = S.tick) := Lib.hid (by simp [Call.turn, ho, Call.err, hn])
      rw [hn] at hnm
      clear hA ho htt hd1 hB1' hn
      go_wp2_with fail
      refine (hnm.out _).mono ?_
      rintro e w' ⟨rfl, rfl⟩
      go_wp2
      go_ret
      rw [hu.out]
      exact ⟨dret_int he.out.symm, hend.out _ (Below.refl _ _)⟩
    | true =>
      rw [hn] at hnm
      have hM := hd1.now
      have c0 : w1.cell? ⟨g, 0, none⟩ = some (.map (some bn)) := by rw [hd1.blk.cell]; rfl
      rw [tick_now] at hM
      have hs80 : s.length ≤ 80 := by simp [nameB] at hn; exact hn.2
      have q0 := fun s' => over_cell c0 s'
      have q1 := fun s' => over_cell k1 s'
      have hlook : ∀ s' : Over w1, (Instr.lookup 87 (.map (some bn)) (strV s) true).run Tryz.prog s'.1 = .ok (.tuple #[strV (fS S.now s), .bool (fHas S.now s)]) s'.1 := fun s' => (hM.over s').look (max_80 hs80)
      have hdoes := Lib.hid (does_any g bn bs v S.tick (.remove s))
      have hfew := hA.few
      obtain ⟨x, hx⟩ : ∃ x, x = fS S.now s := ⟨_, rfl⟩
      obtain ⟨hb, hhb⟩ : ∃ hb, hb = fHas S.now s := ⟨_, rfl⟩
      rw [← hx, ← hhb] at hlook
      replace hx := Lib.hid hx
      replace hhb := Lib.hid hhb
      replace hd1 := Lib.hid hd1
      replace hB1' := Lib.hid hB1'
      replace htt := Lib.hid htt
      replace ho := Lib.hid ho
      replace hfew := Lib.hid hfew
      have hN := Lib.hid hn
      clear hA c0 hM hn
      cases hb with
      | true =>
        go_wp2_with fail
        refine (hnm.out _).mono ?_
        rintro e w' ⟨rfl, rfl⟩
        go_wp2_with fail
        haveI := over_nonempty w1
        refine quiet_over (by kernel_rfl) (by kernel_rfl) ?_
        repeat (first | go_big_quiet_step (fail))
        refine wpQuiet_nil ?_
        rintro _ ⟨s7, rfl⟩
        have hb7 : Below w1.heap.size w1 s7.1 := s7.2
        have hB1q := hB1'.out.below hb7 hB1'.out.lt
        have hd7 := hd1.out.below hb7
        replace hb7 := Lib.hid hb7
        replace hB1q := Lib.hid hB1q
        replace hd7 := Lib.hid hd7
        go_wp2_with fail
        refine (hdoes.out _ _ hd7.out ⟨_, rfl, hB1q.out⟩ hs80 (by rw [tick_now]; have := hfew.out; omega) (by rw [tick_pend]; exact hA'.out.few2)).mono ?_
        rintro e w8 ⟨rfl, hD8⟩
        replace hD8 := Lib.hid hD8
        go_wp2
        go_ret
        refine ⟨dret_int (by simp [Call.errno, ho.out, Call.err, hN.out, tick_now, ← hhb.out]), ?_⟩
        rw [show (Call.remove s).turn S = S.tick.does (.remove s) from by simp [Call.turn, ho.out, Call.err, hN.out, tick_now, ← hhb.out, Call.done]]
        exact Turned.then (htt.out.trans (Touch.ofBelow (L := foot g bn bs v) hb7.out) (fun i hi => .inl hi)) (fun i hi => .inl hi) hD8.out.turned
      | false =>
        go_wp2_with fail
        refine (hnm.out _).mono ?_
        rintro e w' ⟨rfl, rfl⟩
        go_wp2_with fail
        haveI := over_nonempty w1
        refine quiet_over (by kernel_rfl) (by kernel_rfl) ?_
        repeat (first | go_big_quiet_step (fail))
        refine wpQuiet_nil ?_
        rintro _ ⟨s7, rfl⟩
        go_wp2
        go_ret
        refine ⟨dret_int (by simp [Call.errno, ho.out, Call.err, hN.out, tick_now, ← hhb.out]), ?_⟩
        rw [show (Call.remove s).turn S = S.tick from by simp [Call.turn, ho.out, Call.err, hN.out, tick_now, ← hhb.out]]
        exact hend.out _ s7.2
set_option maxRecDepth 100000 in
set_option maxHeartbeats 2000000 in
theorem rename_any (g bn bs : Nat) (v : Value) (S : DS) (s t : List UInt8) (w : World) (h : DiskAt w g bn bs v S) (hA : Asked S) (hs : s.length ≤ 140737488355328) (ht : t.length ≤ 140737488355328) :
    Calls Tryz.prog 138 #[.pointer (some ⟨g, 0, none⟩), strV s, strV t] w fun e w' => e = .returned (.int .i64 ((Call.rename s t).errno S)) ∧ Turned w (foot g bn bs v) g ((Call.rename s t).turn S) w' := by
  have hbl : Below w.heap.size w ((w.alloc (.cells #[strV s] 9)).alloc (.cells #[strV t] 9)) := ((Below.refl _ _).alloc (Nat.le_refl _) _).alloc (by simp) _
  have hB1 : Blk ((w.alloc (.cells #[strV s] 9)).alloc (.cells #[strV t] 9)) w.heap.size 9 [strV s] := (boxedD s).alloc _
  have hB2 : Blk ((w.alloc (.cells #[strV s] 9)).alloc (.cells #[strV t] 9)) (w.heap.size + 1) 9 [strV t] := Blk.new_at (cs := [strV t]) (by simp)
  have hd0 := h.below hbl
  have hA' := Lib.hid hA
  replace h := Lib.hid h
  go_enter Tryz.func138, Tryz.ntmps138
  go_wp2_with fail
  generalize ((w.alloc (.cells #[strV s] 9)).alloc (.cells #[strV t] 9)) = w0 at hbl hB1 hB2 hd0 ⊢
  refine (power_write g bn bs v S w0 hd0 hA.fuse0 hA.fuse1).mono ?_
  rintro e w1 ⟨rfl, hd1, ht1, hz1⟩
  have hB1' := hB1.touch ht1 (by have := hB1.ne_ hd0.blk (by decide); simpa using this)
  have hB2' := hB2.touch ht1 (by have := hB2.ne_ hd0.blk (by decide); simpa using this)
  have htt : Touch (foot g bn bs v) w w1 := (Touch.ofBelow hbl).trans ht1 (fun i hi => .inl (by have : i = g := (by simpa using hi); rw [this]; simp [foot]))
  have hend : ∀ w', Below w1.heap.size w1 w' → Turned w (foot g bn bs v) g S.tick w' := fun w' hb => Turned.then htt (fun i hi => .inl hi) (Turned.same ⟨bn, bs, v, hd1, rfl⟩ hb)
  replace hend := Lib.hid hend
  clear hbl hB1 hB2 hd0 ht1 hz1
  cases ho : S.tick.off with
  | true =>
    have hp : Hid (S.powE = 15) := Lib.hid (by simp [DS.powE, ho])
    have he : Hid ((Call.rename s t).errno S = 15) := Lib.hid (by simp [Call.errno, ho])
    have hu : Hid ((Call.rename s t).turn S = S.tick) := Lib.hid (by simp [Call.turn, ho])
    rw [hp.out]
    clear hA ho htt hd1 hB1' hB2'
    go_wp2
    go_ret
    rw [hu.out]
    exact ⟨dret_int he.out.symm, hend.out _ (Below.refl _ _)⟩
  | false =>
    have hp : Hid (S.powE = 0) := Lib.hid (by simp [DS.powE, ho])
    rw [hp.out]
    have k1 : w1.cell? ⟨w.heap.size, 0, none⟩ = some (strV s) := by rw [hB1'.cell]; rfl
    have k2 : w1.cell? ⟨w.heap.size + 1, 0, none⟩ = some (strV t) := by rw [hB2'.cell]; rfl
    have hnm2 := Lib.hid (fun w => name_any t w ht)
    have hnm := Lib.hid (fun w => name_any s w hs)
    cases hn : nameB s with
    | false =>
      have he : Hid ((Call.rename s t).errno S = 11) := Lib.hid (by simp [Call.errno, ho, Call.err, hn])
      have hu : Hid ((Call.rename s t).turn S = S.tick) := Lib.hid (by simp [Call.turn, ho, Call.err, hn])
      rw [hn] at hnm
      clear hA ho htt hd1 hB1' hB2' hn
      go_wp2_with fail
      refine (hnm.out _).mono ?_
      rintro e w' ⟨rfl, rfl⟩
      go_wp2
      go_ret
      rw [hu.out]
      exact ⟨dret_int he.out.symm, hend.out _ (Below.refl _ _)⟩
    | true =>
      rw [hn] at hnm
      cases hn2 : nameB t with
      | false =>
        have he : Hid ((Call.rename s t).errno S = 11) := Lib.hid (by simp [Call.errno, ho, Call.err, hn, hn2])
        have hu : Hid ((Call.rename s t).turn S = S.tick) := Lib.hid (by simp [Call.turn, ho, Call.err, hn, hn2])
        rw [hn2] at hnm2
        clear hA ho htt hd1 hB1' hB2' hn hn2
        go_wp2_with fail
        refine (hnm.out _).mono ?_
        rintro e w' ⟨rfl, rfl⟩
        go_wp2_with fail
        refine (hnm2.out _).mono ?_
        rintro e w' ⟨rfl, rfl⟩
        go_wp2
        go_ret
        rw [hu.out]
        exact ⟨dret_int he.out.symm, hend.out _ (Below.refl _ _)⟩
      | true =>
        rw [hn2] at hnm2
        have hM := hd1.now
        have c0 : w1.cell? ⟨g, 0, none⟩ = some (.map (some bn)) := by rw [hd1.blk.cell]; rfl
        rw [tick_now] at hM
        have hs80 : s.length ≤ 80 := by simp [nameB] at hn; exact hn.2
        have ht80 : t.length ≤ 80 := by simp [nameB] at hn2; exact hn2.2
        have q0 := fun s' => over_cell c0 s'
        have q1 := fun s' => over_cell k1 s'
        have hlook : ∀ s' : Over w1, (Instr.lookup 87 (.map (some bn)) (strV s) true).run Tryz.prog s'.1 = .ok (.tuple #[strV (fS S.now s), .bool (fHas S.now s)]) s'.1 := fun s' => (hM.over s').look (max_80 hs80)
        have hdoes := Lib.hid (does_any g bn bs v S.tick (.rename s t))
        have hfew := hA.few
        obtain ⟨x, hx⟩ : ∃ x, x = fS S.now s := ⟨_, rfl⟩
        obtain ⟨hb, hhb⟩ : ∃ hb, hb = fHas S.now s := ⟨_, rfl⟩
        rw [← hx, ← hhb] at hlook
        replace hx := Lib.hid hx
        replace hhb := Lib.hid hhb
        replace hd1 := Lib.hid hd1
        replace hB1' := Lib.hid hB1'
        replace hB2' := Lib.hid hB2'
        replace htt := Lib.hid htt
        replace ho := Lib.hid ho
        replace hfew := Lib.hid hfew
        have hN := Lib.hid hn
        have hN2 := Lib.hid hn2
        clear hA c0 hM hn hn2
        cases hb with
        | true =>
          go_wp2_with fail
          refine (hnm.out _).mono ?_
          rintro e w' ⟨rfl, rfl⟩
          go_wp2_with fail
          refine (hnm2.out _).mono ?_
          rintro e w' ⟨rfl, rfl⟩
          go_wp2_with fail
          haveI := over_nonempty w1
          refine quiet_over (by kernel_rfl) (by kernel_rfl) ?_
          repeat (first | go_big_quiet_step (fail))
          refine wpQuiet_nil ?_
          rintro _ ⟨s7, rfl⟩
          have hb7 : Below w1.heap.size w1 s7.1 := s7.2
          have hB1q := hB1'.out.below hb7 hB1'.out.lt
          have hB2q := hB2'.out.below hb7 hB2'.out.lt
          have hd7 := hd1.out.below hb7
          replace hb7 := Lib.hid hb7
          replace hB1q := Lib.hid hB1q
          replace hB2q := Lib.hid hB2q
          replace hd7 := Lib.hid hd7
          go_wp2_with fail
          refine (hdoes.out _ _ hd7.out ⟨_, _, rfl, hB1q.out, hB2q.out⟩ ⟨hs80, ht80⟩ (by rw [tick_now]; have := hfew.out; omega) (by rw [tick_pend]; exact hA'.out.few2)).mono ?_
          rintro e w8 ⟨rfl, hD8⟩
          replace hD8 := Lib.hid hD8
          go_wp2
          go_ret
          refine ⟨dret_int (by simp [Call.errno, ho.out, Call.err, hN.out, hN2.out, tick_now, ← hhb.out]), ?_⟩
          rw [show (Call.rename s t).turn S = S.tick.does (.rename s t) from by simp [Call.turn, ho.out, Call.err, hN.out, hN2.out, tick_now, ← hhb.out, Call.done]]
          exact Turned.then (htt.out.trans (Touch.ofBelow (L := foot g bn bs v) hb7.out) (fun i hi => .inl hi)) (fun i hi => .inl hi) hD8.out.turned
        | false =>
          go_wp2_with fail
          refine (hnm.out _).mono ?_
          rintro e w' ⟨rfl, rfl⟩
          go_wp2_with fail
          refine (hnm2.out _).mono ?_
          rintro e w' ⟨rfl, rfl⟩
          go_wp2_with fail
          haveI := over_nonempty w1
          refine quiet_over (by kernel_rfl) (by kernel_rfl) ?_
          repeat (first | go_big_quiet_step (fail))
          refine wpQuiet_nil ?_
          rintro _ ⟨s7, rfl⟩
          go_wp2
          go_ret
          refine ⟨dret_int (by simp [Call.errno, ho.out, Call.err, hN.out, hN2.out, tick_now, ← hhb.out]), ?_⟩
          rw [show (Call.rename s t).turn S = S.tick from by simp [Call.turn, ho.out, Call.err, hN.out, hN2.out, tick_now, ← hhb.out]]
          exact hend.out _ s7.2
end Go.Proofs.YtamdhaoglapnnaaGreatDoor
end

section
/- The walks of Sync, Read, Names, Size, New, Fuse. -/
namespace Go.Proofs.YtamdhaoglapnnaaGreatDoor
open Go.RowKit Go.Maps Go.Sort

/-- A disk whose struct and one map are new. -/
theorem nilRow (w : World) : w.ownsRow 0 145 1 (.slice none 0 0) 0 [] := ⟨rfl, .inl ⟨rfl, rfl⟩⟩
set_option maxRecDepth 100000 in
set_option maxHeartbeats 1000000 in
theorem sync_any (g bn bs : Nat) (v : Value) (S : DS) (w : World) (h : DiskAt w g bn bs v S) (hF : S.Fit) :
    Calls Tryz.prog 136 #[.pointer (some ⟨g, 0, none⟩)] w fun e w' => e = .returned (.int .i64 (Call.sync.errno S)) ∧ Turned w (foot g bn bs v) g (Call.sync.turn S) w' := by
  have hpw := Lib.hid (power_write g bn bs v S w h hF.fuse0 hF.fuse1)
  clear h hF
  go_enter Tryz.func136, Tryz.ntmps136
  go_wp2_with fail
  refine hpw.out.mono ?_
  rintro e w1 ⟨rfl, hd1, ht1, hz1⟩
  have htt : Touch (foot g bn bs v) w w1 := ht1.mono (fun i hi => .inl (by have : i = g := (by simpa using hi); rw [this]; simp [foot]))
  clear ht1 hz1
  cases ho : S.tick.off with
  | true =>
    have hp : Hid (S.powE = 15) := Lib.hid (by simp [DS.powE, ho])
    have he : Hid (Call.sync.errno S = 15) := Lib.hid (by simp [Call.errno, ho])
    have hu : Hid (Call.sync.turn S = S.tick) := Lib.hid (by simp [Call.turn, ho])
    rw [hp.out]
    replace hd1 := Lib.hid hd1
    replace htt := Lib.hid htt
    clear ho
    go_wp2
    go_ret
    rw [hu.out]
    exact ⟨dret_int he.out.symm, Turned.then htt.out (fun i hi => .inl hi) (Turned.same ⟨bn, bs, v, hd1.out, rfl⟩ (Below.refl _ _))⟩
  | false =>
    have hp : Hid (S.powE = 0) := Lib.hid (by simp [DS.powE, ho])
    have he : Hid (Call.sync.errno S = 0) := Lib.hid (by simp [Call.errno, ho, Call.err])
    have hu : Hid (Call.sync.turn S = { S.tick with sure := S.tick.now, pend := [] }) := Lib.hid (by simp [Call.turn, ho, Call.err, Call.done])
    rw [hp.out]
    have c0 : w1.cell? ⟨g, 0, none⟩ = some (.map (some bn)) := by rw [hd1.blk.cell]; rfl
    have hcl := Lib.hid (mclone_any w1 bn _ hd1.now)
    replace hd1 := Lib.hid hd1
    replace htt := Lib.hid htt
    clear ho
    go_wp2_with fail
    refine hcl.out.mono ?_
    rintro e w2 ⟨rfl, hm2, hb2⟩
    have hd2 := hd1.out.below hb2
    have z1 := hd2.blk.frozen 1
    have z2 := hd2.blk.frozen 2
    have c1 : w2.cell? ⟨g, 1, none⟩ = some (.map (some bs)) := by rw [hd2.blk.cell]; rfl
    have c2 : w2.cell? ⟨g, 2, none⟩ = some v := by rw [hd2.blk.cell]; rfl
    have hlt : bn ≠ w1.heap.size := by have := hd1.out.now.lt; omega
    have hg1 : g < w1.heap.size := hd1.out.blk.lt
    obtain ⟨gg, hgg⟩ : ∃ gg, gg = w1.heap.size := ⟨_, rfl⟩
    rw [← hgg] at hlt hg1 hm2 ⊢
    replace hd2 := Lib.hid hd2
    replace hm2 := Lib.hid hm2
    replace hb2 := Lib.hid hb2
    replace hlt := Lib.hid hlt
    replace hgg := Lib.hid hgg
    clear c0
    go_wp2
    go_ret
    rw [hu.out]
    refine ⟨dret_int he.out.symm, ?_⟩
    have ht2 : Touch [g] w2 ((w2.setCell ⟨g, 1, none⟩ (.map (some gg))).setCell ⟨g, 2, none⟩ (.slice none 0 0)) := (Touch.setCell _ (by simp)).trans (Touch.setCell _ (by simp)) (fun i hi => .inl hi)
    refine ⟨htt.out.trans ((Touch.ofBelow (L := foot g bn bs v) hb2.out).trans ht2 (fun i hi => .inl (by have : i = g := (by simpa using hi); rw [this]; simp [foot]))) (fun i hi => .inl hi), foot g bn gg (.slice none 0 0), ⟨bn, gg, .slice none 0 0, ⟨(hd2.out.blk.set_ 1 _).set_ 2 _, hd2.out.now.touch ht2 (by simpa using hd2.out.gne bn (by simp)), hm2.out.touch ht2 (by simp; omega), hlt.out, [], nilRow _, rfl, fun i o v h1 _ => by simp at h1⟩, rfl⟩, ?_⟩
    intro i hi
    rcases DiskAt.mem_foot hi with rfl | rfl | rfl | e
    · simp [foot]
    · simp [foot]
    · right; rw [hgg.out]; exact htt.out.size
    · cases e
theorem ret_two {a b : Value} {c d : Value} (h1 : a = c) (h2 : b = d) : Ending.returned (.tuple #[a, b]) = .returned (.tuple #[c, d]) := by rw [h1, h2]
set_option maxRecDepth 100000 in
set_option maxHeartbeats 1000000 in
theorem read_any (g bn bs : Nat) (v : Value) (S : DS) (s : List UInt8) (w : World) (h : DiskAt w g bn bs v S) (hs : s.length ≤ 140737488355328) :
    Calls Tryz.prog 85 #[.pointer (some ⟨g, 0, none⟩), strV s] w fun e w' => e = .returned (.tuple #[strV (S.readT s), .int .i64 (S.readE s)]) ∧ w = w' := by
  have hpw := Lib.hid (power_read g bn bs v S w h)
  have hnm := Lib.hid (name_any s w hs)
  have c0 : w.cell? ⟨g, 0, none⟩ = some (.map (some bn)) := by rw [h.blk.cell]; rfl
  cases ho : S.off with
  | true =>
    have hp : Hid (S.powR = 15) := Lib.hid (by simp [DS.powR, ho])
    have he : Hid (S.readE s = 15) := Lib.hid (by simp [DS.readE, ho])
    have hu : Hid (S.readT s = []) := Lib.hid (by simp [DS.readT, ho])
    clear h ho
    go_enter Tryz.func85, Tryz.ntmps85
    go_wp2_with fail
    refine hpw.out.mono ?_
    rintro e w1 ⟨rfl, rfl⟩
    rw [hp.out]
    go_wp2
    go_ret2
    exact ⟨ret_two (by rw [hu.out]; rfl) (by rw [he.out]; rfl), rfl⟩
  | false =>
    have hp : Hid (S.powR = 0) := Lib.hid (by simp [DS.powR, ho])
    cases hn : nameB s with
    | false =>
      have he : Hid (S.readE s = 11) := Lib.hid (by simp [DS.readE, ho, hn])
      have hu : Hid (S.readT s = []) := Lib.hid (by simp [DS.readT, ho, hn])
      rw [hn] at hnm
      clear h ho hn
      go_enter Tryz.func85, Tryz.ntmps85
      go_wp2_with fail
      refine hpw.out.mono ?_
      rintro e w1 ⟨rfl, rfl⟩
      rw [hp.out]
      go_wp2_with fail
      refine hnm.out.mono ?_
      rintro e w1 ⟨rfl, rfl⟩
      go_wp2
      go_ret2
      exact ⟨ret_two (by rw [hu.out]; rfl) (by rw [he.out]; rfl), rfl⟩
    | true =>
      have hs80 : s.length ≤ 80 := by simp [nameB] at hn; exact hn.2
      have hlook := h.now.look (max_80 hs80)
      rw [hn] at hnm
      cases hh : fHas S.now s with
      | false =>
        have he : Hid (S.readE s = 5) := Lib.hid (by simp [DS.readE, ho, hn, hh])
        have hu : Hid (S.readT s = []) := Lib.hid (by simp [DS.readT, ho, hn, fS_none hh])
        rw [hh] at hlook
        clear h ho hn hh
        go_enter Tryz.func85, Tryz.ntmps85
        go_wp2_with fail
        refine hpw.out.mono ?_
        rintro e w1 ⟨rfl, rfl⟩
        rw [hp.out]
        go_wp2_with fail
        refine hnm.out.mono ?_
        rintro e w1 ⟨rfl, rfl⟩
        go_wp2
        go_ret2
        exact ⟨ret_two (by rw [hu.out]; rfl) (by rw [he.out]; rfl), rfl⟩
      | true =>
        have he : Hid (S.readE s = 0) := Lib.hid (by simp [DS.readE, ho, hn, hh])
        have hu : Hid (S.readT s = fS S.now s) := Lib.hid (by simp [DS.readT, ho, hn])
        rw [hh] at hlook
        clear h ho hn hh
        go_enter Tryz.func85, Tryz.ntmps85
        go_wp2_with fail
        refine hpw.out.mono ?_
        rintro e w1 ⟨rfl, rfl⟩
        rw [hp.out]
        go_wp2_with fail
        refine hnm.out.mono ?_
        rintro e w1 ⟨rfl, rfl⟩
        go_wp2
        go_ret2
        exact ⟨ret_two (by rw [hu.out]; rfl) (by rw [he.out]; rfl), rfl⟩
/-- New, where the room is one. -/
def NewTo (w : World) (room : Int) (e : Ending) (w' : World) : Prop := ∃ g L, e = .returned (.tuple #[.pointer (some ⟨g, 0, none⟩), .int .i64 0]) ∧ DiskIs w' L g (DS.new room) ∧ (∀ i ∈ L, w.heap.size ≤ i) ∧ Below w.heap.size w w'
set_option maxRecDepth 100000 in
set_option maxHeartbeats 1000000 in
theorem dnew_any (room : Int) (w : World) (h0 : 0 ≤ room) (h1 : room ≤ 16777216) : Calls Tryz.prog 33 #[.int .i64 room] w (NewTo w room) := by
  have hmm := @run_makeMap Tryz.prog
  go_enter Tryz.func33, Tryz.ntmps33
  go_wp2
  go_ret2
  have m1 : MapIs (w.alloc (Obj.map #[] 0)) w.heap.size fNil := MapIs.of (World.ownsMap_made w _ _ _)
  have m2 : MapIs ((w.alloc (Obj.map #[] 0)).alloc (Obj.map #[] 0)) (w.heap.size + 1) fNil := by
    have := MapIs.of (World.ownsMap_made (w.alloc (Obj.map #[] 0)) Tryz.prog 9 (plainElem (H := Unit) Tryz.prog 9))
    simpa [fNil] using this
  refine ⟨w.heap.size + 1 + 1, foot (w.heap.size + 1 + 1) w.heap.size (w.heap.size + 1) (.slice none 0 0), rfl, ⟨_, _, _, ⟨Blk.new_at (cs := dCells w.heap.size (w.heap.size + 1) (.slice none 0 0) (DS.new room)) (by simp), ?_, ?_, by omega, [], nilRow _, rfl, fun i o v h1 _ => by simp [DS.new] at h1⟩, rfl⟩, ?_, ?_⟩
  · exact (m1.touch (L := []) (Touch.alloc _) (by simp)).touch (L := []) (Touch.alloc _) (by simp)
  · exact m2.touch (L := []) (Touch.alloc _) (by simp)
  · intro i hi
    rcases DiskAt.mem_foot hi with rfl | rfl | rfl | e
    · omega
    · omega
    · omega
    · cases e
  · exact ((((Below.refl _ _).alloc (Nat.le_refl _) _).alloc (by simp) _).alloc (by simp; omega) _)
end Go.Proofs.YtamdhaoglapnnaaGreatDoor
end

section
/- The walks of Crash and Copy. -/
namespace Go.Proofs.YtamdhaoglapnnaaGreatDoor
open Go.RowKit Go.Maps Go.Sort

/-- A disk whose map of what is sure has been written. -/
theorem DiskAt.wroteS {w w' : World} {g bn bs : Nat} {v : Value} {S : DS} {D : DM} (h : DiskAt w g bn bs v S) (ht : Touch [bs] w w') (hm : MapIs w' bs D) : DiskAt w' g bn bs v { S with sure := D } := by
  have hnb : ∀ i cs t, Blk w i t cs → i ≠ bs := fun i cs t hc e => by
    obtain ⟨es, c, he⟩ := h.sure.at
    subst e; unfold Blk at hc; rw [he] at hc; cases hc
  obtain ⟨vs, ho, hop⟩ := h.row
  refine ⟨h.blk.touch ht (by simpa using hnb g _ _ h.blk), h.now.touch ht (by simpa using h.ne), hm, h.ne, vs, own_touch ho ht (fun b hb => ?_), hop.touch ht (fun i hi cs hc => hnb i cs _ hc (by simpa using hi))⟩
  rcases ho.2 with ⟨rfl, _⟩ | ⟨g', cap, cur, rfl, _, hg', _⟩
  · cases hb
  · have : g' = b := by simpa [Value.ownBlock] using hb
    subst this
    have := hnb g' cur.toList _ (show Blk w g' _ _ from by unfold Blk; simpa using hg')
    simpa using this
def intV (k : Int) : Value := .int .i64 k
/-- A slice of numbers that a crash is handed. -/
def Nums (w : World) (ok : Nat → Prop) (A : Option Addr) (l : List Int) : Prop := Rd w ok A (l.map intV)
theorem Nums.at {w : World} {ok : Nat → Prop} {A : Option Addr} {l : List Int} (h : Nums w ok A l) {i : Nat} (hi : i < l.length) : ∃ ad, A = some ad ∧ w.cell? (ad.add i) = some (.int .i64 l[i]) := by
  obtain ⟨ad, e, _, hc⟩ := h (by simp; omega)
  exact ⟨ad, e, hc i _ (by simp [hi, intV])⟩
theorem below_setRow {B : Nat} {w w' : World} (h : Below B w w') {g : Nat} (hg : B ≤ g) (c : Array Value) : Below B w (w'.setRow g c) :=
  h.trans ⟨rfl, rfl, rfl, by simp [World.setRow], fun k hk => setRow_other w' g k c (by omega)⟩
theorem callSz : (Tryz.prog.info? 145).map (·.size) = some 1 := by kernel_rfl
theorem OpIs.form {w : World} {o : DOp} {v : Value} (h : OpIs w o v) : ∃ fn cap, v = .func (.func fn) #[] cap := by
  cases o with
  | write s t => obtain ⟨a, b, rfl, _⟩ := h; exact ⟨_, _, rfl⟩
  | remove s => obtain ⟨a, rfl, _⟩ := h; exact ⟨_, _, rfl⟩
  | rename s t => obtain ⟨a, b, rfl, _⟩ := h; exact ⟨_, _, rfl⟩
def CrashRel (w : World) (g bn bs : Nat) (v : Value) (S : DS) (l : List Int) (k : Nat) (wr : World) : Prop :=
  DiskAt wr g bn bs v { S with sure := crashTo (S.pend.take k) l S.sure } ∧ Touch (foot g bn bs v) w wr
end Go.Proofs.YtamdhaoglapnnaaGreatDoor
end
