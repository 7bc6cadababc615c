/- The walks of name, made, power, size and of the closures. -/
import Derived.Test.YtlenmkemjaaaoaaDoorDkL
import Derived.Deep.QuietTactic
import Derived.BigQuiet
import Derived.LoopTactic
import Derived.IntWalk
namespace Go.Proofs.YtlenmkemjaaaoaaDoor
open Go.RowKit Go.Maps Go.Sort

theorem strLen (s : List UInt8) : (⟨s.toArray⟩ : ByteArray).size = s.length := by simp [ByteArray.size]
set_option maxHeartbeats 400000 in
theorem name_any (s : List UInt8) (w : World) (hs : s.length ≤ 140737488355328) : Calls Tryd.prog 83 #[strV s] w fun e w' => e = .returned (.bool (nameB s)) ∧ w = w' := by
  unfold strV
  by_cases h1 : 1 ≤ s.length
  · have d1 : decide (1 ≤ (s.length : Int)) = true := by simp; omega
    have hn : nameB s = decide (s.length ≤ 80) := by simp [nameB, h1]
    rw [hn]
    clear hn
    go_enter Tryd.func83, Tryd.ntmps83
    go_wp2
    go_ret
    exact ⟨by simp; omega, rfl⟩
  · have hn : nameB s = false := by simp [nameB]; omega
    rw [hn]
    clear hn
    go_enter Tryd.func83, Tryd.ntmps83
    go_wp2
    go_ret
    exact ⟨by simp, rfl⟩
set_option maxHeartbeats 400000 in
theorem made_any (g bn bs : Nat) (v : Value) (S : DS) (w : World) (h : DiskAt w g bn bs v S) : Calls Tryd.prog 62 #[.pointer (some ⟨g, 0, none⟩)] w fun e w' => e = .returned (.bool true) ∧ w = w' := by
  have c0 : w.cell? ⟨g, 0, none⟩ = some (.map (some bn)) := by rw [h.blk.cell]; rfl
  have hq := fun w => run_neq_map_nil (P := Tryd.prog) w 72 _ _ (some bn) Tryd.underlying72
  go_enter Tryd.func62, Tryd.ntmps62
  go_wp2
  go_ret
  exact ⟨rfl, rfl⟩

theorem DiskAt.gne {w : World} {g bn bs : Nat} {v : Value} {S : DS} (h : DiskAt w g bn bs v S) : ∀ i ∈ bn :: bs :: v.ownBlock.toList, i ≠ g := by
  intro i hi e
  subst e
  simp only [List.mem_cons, Option.mem_toList] at hi
  rcases hi with rfl | rfl | e
  · obtain ⟨es, c, he⟩ := h.now.at
    have hB := h.blk
    unfold Blk at hB; rw [he] at hB; cases hB
  · obtain ⟨es, c, he⟩ := h.sure.at
    have hB := h.blk
    unfold Blk at hB; rw [he] at hB; cases hB
  · obtain ⟨vs, ho, _⟩ := h.row
    rcases ho.2 with ⟨rfl, _⟩ | ⟨g', cap, cur, rfl, _, hg, _⟩
    · cases e
    · have : g' = i := by simpa [Value.ownBlock] using e
      subst this
      have hB := h.blk
      unfold Blk at hB
      rw [hg] at hB
      injection hB with hB
      injection hB with _ ht
      exact absurd ht (by decide)
/-- The struct alone is written. -/
theorem DiskAt.turn {w w' : World} {g bn bs : Nat} {v : Value} {S S' : DS} (h : DiskAt w g bn bs v S) (ht : Touch [g] w w') (hB : Blk w' g 75 (dCells bn bs v S')) (e1 : S'.now = S.now) (e2 : S'.sure = S.sure) (e3 : S'.pend = S.pend) :
    DiskAt w' g bn bs v S' := by
  have hg := h.gne
  obtain ⟨vs, ho, hop⟩ := h.row
  refine ⟨hB, ?_, ?_, h.ne, vs, ?_, ?_⟩
  · rw [e1]; exact h.now.touch ht (by simpa using hg bn (by simp))
  · rw [e2]; exact h.sure.touch ht (by simpa using hg bs (by simp))
  · rw [e3]; exact own_touch ho ht (fun b hb => by simpa using hg b (by simp [hb]))
  · rw [e3]; exact hop.touch ht (fun i hi cs hc => by
      have : i = g := by simpa using hi
      subst this
      exact h.blk.ne_ hc (by decide) rfl)

theorem ret_int {k : IntKind} {a b : Int} (h : a = b) : Ending.returned (.int k a) = .returned (.int k b) := by rw [h]
set_option maxHeartbeats 400000 in
theorem power_read (g bn bs : Nat) (v : Value) (S : DS) (w : World) (h : DiskAt w g bn bs v S) : Calls Tryd.prog 65 #[.pointer (some ⟨g, 0, none⟩), .bool false] w fun e w' => e = .returned (.int .i64 S.powR) ∧ w = w' := by
  have c5 : w.cell? ⟨g, 5, none⟩ = some (.bool S.off) := by rw [h.blk.cell]; rfl
  have hm := Lib.hid (made_any g bn bs v S w h)
  clear h
  cases ho : S.off with
  | true =>
    have hp : Hid (S.powR = 15) := Lib.hid (by simp [DS.powR, ho])
    rw [ho] at c5
    clear ho
    go_enter Tryd.func65, Tryd.ntmps65
    go_wp2_with fail
    refine hm.out.mono ?_
    rintro e w' ⟨rfl, rfl⟩
    go_wp2
    go_ret
    exact ⟨ret_int hp.out.symm, rfl⟩
  | false =>
    have hp : Hid (S.powR = 0) := Lib.hid (by simp [DS.powR, ho])
    rw [ho] at c5
    clear ho
    go_enter Tryd.func65, Tryd.ntmps65
    go_wp2_with fail
    refine hm.out.mono ?_
    rintro e w' ⟨rfl, rfl⟩
    go_wp2
    go_ret
    exact ⟨ret_int hp.out.symm, rfl⟩
set_option maxHeartbeats 400000 in
theorem power_write (g bn bs : Nat) (v : Value) (S : DS) (w : World) (h : DiskAt w g bn bs v S) (f0 : -1 ≤ S.fuse) (f1 : S.fuse ≤ 1000000) : Calls Tryd.prog 65 #[.pointer (some ⟨g, 0, none⟩), .bool true] w fun e w' =>
    e = .returned (.int .i64 S.powE) ∧ DiskAt w' g bn bs v S.tick ∧ Touch [g] w w' ∧ w'.heap.size = w.heap.size := by
  have c4 : w.cell? ⟨g, 4, none⟩ = some (.int .i64 S.fuse) := by rw [h.blk.cell]; rfl
  have c5 : w.cell? ⟨g, 5, none⟩ = some (.bool S.off) := by rw [h.blk.cell]; rfl
  have z4 := h.blk.frozen 4
  have z5 := h.blk.frozen 5
  have hm := Lib.hid (made_any g bn bs v S w h)
  replace h := Lib.hid h
  cases ho : S.off with
  | true =>
    have ht : Hid (S.tick = S) := Lib.hid (by simp [DS.tick, ho])
    have hp : Hid (S.powE = 15) := Lib.hid (by simp [DS.powE, ht.out, ho])
    rw [ho] at c5
    clear ho
    go_enter Tryd.func65, Tryd.ntmps65
    go_wp2_with fail
    refine hm.out.mono ?_
    rintro e w' ⟨rfl, rfl⟩
    go_wp2
    go_ret
    exact ⟨ret_int hp.out.symm, by rw [ht.out]; exact h.out, Touch.refl _ _, rfl⟩
  | false =>
    have ht : Hid (S.tick = { S with off := decide (S.fuse = 0), fuse := max (S.fuse - 1) (-1) }) := Lib.hid (by simp [DS.tick, ho])
    rw [ho] at c5
    clear ho
    obtain ⟨f, hf⟩ : ∃ f, f = S.fuse := ⟨_, rfl⟩
    rw [← hf] at f0 f1 c4 ht
    replace hf := Lib.hid hf
    by_cases hz : f = 0
    · have hp : Hid (S.powE = 15) := Lib.hid (by simp [DS.powE, ht.out, hz])
      subst hz
      go_enter Tryd.func65, Tryd.ntmps65
      go_wp2_with fail
      refine hm.out.mono ?_
      rintro e w' ⟨rfl, rfl⟩
      go_wp2
      go_ret
      refine ⟨ret_int hp.out.symm, ?_, (Touch.setCell _ (by simp)).trans (Touch.setCell _ (by simp)) (fun i hi => .inl hi), by simp⟩
      rw [ht.out]
      exact h.out.turn ((Touch.setCell _ (by simp)).trans (Touch.setCell _ (by simp)) (fun i hi => .inl hi)) ((h.out.blk.set_ 5 _).set_ 4 _) rfl rfl rfl
    · have hB : (f == 0) = false := by simp [hz]
      have hp : Hid (S.powE = 0) := Lib.hid (by simp [DS.powE, ht.out, hz])
      replace hz := Lib.hid hz
      have hD := h
      clear h
      go_enter Tryd.func65, Tryd.ntmps65
      go_wp2_with fail
      refine hm.out.mono ?_
      rintro e w' ⟨rfl, rfl⟩
      go_wp2
      all_goals
        go_ret
        refine ⟨ret_int hp.out.symm, ?_, (Touch.setCell _ (by simp)).trans (Touch.setCell _ (by simp)) (fun i hi => .inl hi), by simp⟩
        rw [ht.out, decide_eq_false hz.out]
        first
          | (rw [show max (f - 1) (-1) = f - 1 by omega]; exact hD.out.turn ((Touch.setCell _ (by simp)).trans (Touch.setCell _ (by simp)) (fun i hi => .inl hi)) ((hD.out.blk.set_ 5 _).set_ 4 _) rfl rfl rfl)
          | (rw [show max (f - 1) (-1) = -1 by omega]; exact hD.out.turn ((Touch.setCell _ (by simp)).trans (Touch.setCell _ (by simp)) (fun i hi => .inl hi)) ((hD.out.blk.set_ 5 _).set_ 4 _) rfl rfl rfl)
          | exact hD.out.turn ((Touch.setCell _ (by simp)).trans (Touch.setCell _ (by simp)) (fun i hi => .inl hi)) ((hD.out.blk.set_ 5 _).set_ 4 _) rfl rfl rfl

/-! ### size -/
/-- What is still to come. -/
def leftSum (D : DM) (left : Lit → Bool) : Nat := (((fEs D).filter fun p => left p.1).map lenD).sum
theorem leftSum_le (D : DM) (left : Lit → Bool) : leftSum D left ≤ fSum D := by
  unfold leftSum fSum
  induction fEs D with
  | nil => simp
  | cons p r ih =>
    rw [List.filter_cons]
    split <;> simp <;> omega
theorem leftSum_start {D : DM} (h : StrMap D) : leftSum D (Maps.has D) = fSum D := by
  obtain ⟨es, rfl, hp, hs⟩ := h
  unfold leftSum fSum
  rw [List.filter_eq_self.2]
  intro p hm
  show Maps.has (.map es) p.1 = true
  rw [has_eq, List.any_eq_true]
  obtain ⟨k, v, rfl⟩ := hs p hm
  exact ⟨_, hm, by simp [Lit.sameKey]⟩
theorem leftSum_end {D : DM} {left : Lit → Bool} (h : ∀ k, left k = false) : leftSum D left = 0 := by
  unfold leftSum
  rw [List.filter_eq_nil_iff.2 (by simp [h])]
  rfl
theorem leftSum_step {D : DM} (h : StrMap D) {left : Lit → Bool} {k t : List UInt8} (hl : left (.string k) = true) (hat : ∀ zd, D.atKey (.string k) zd = litS t) :
    leftSum D left = t.length + leftSum D (fun z => left z && !z.sameKey (.string k)) := by
  have hh := has_true_of_atKey hat
  obtain ⟨es, rfl, hp, hs⟩ := h
  have hhit : hitS es (.string k) = litS t := by
    have h1 := hat (litS [])
    have h2 := fS_map es k
    unfold fS at h2
    rw [h1] at h2
    unfold hitS at h2 ⊢
    rw [has_eq, List.any_eq_true] at hh
    obtain ⟨p, hm, hsk⟩ := hh
    cases hf : es.find? (fun p => p.1.sameKey (.string k)) with
    | none => exact absurd hsk (by simpa using List.find?_eq_none.1 hf p hm)
    | some q =>
      rw [hf] at h2
      obtain ⟨k', v, rfl⟩ := hs q (List.mem_of_find?_eq_some hf)
      simp only [strD, litS] at h2 ⊢
      rw [h2]
  unfold leftSum
  show ((es.filter fun p => left p.1).map lenD).sum = _ + ((es.filter fun p => left p.1 && !p.1.sameKey (.string k)).map lenD).sum
  have h3 : (es.filter fun p => left p.1 && !p.1.sameKey (.string k)) = ((es.filter fun p => left p.1).filter fun p => !p.1.sameKey (.string k)) := by
    rw [List.filter_filter]
    congr 1
    funext p
    exact Bool.and_comm _ _
  rw [h3, ← sum_strike (.string k) (es.filter fun p => left p.1) (hp.filter _)]
  have h4 : hitS (es.filter fun p => left p.1) (.string k) = hitS es (.string k) := by
    unfold hitS
    rw [find_filter_keep (fun p hp' => by rw [WideAt.sameKey_eq hp']; exact hl)]
  rw [h4, hhit]
  simp only [strD, litS]
  exact Nat.add_comm _ _
def SizeRel (w : World) (b : Nat) (D : DM) (n : Nat) (w' : World) : Prop := ∃ left cnt, w'.ranges Tryd.prog 9 (plainElem (H := Unit) Tryd.prog 9) b w.heap.size (fLen D) D left cnt ∧ n + leftSum D left = fSum D ∧ Below w.heap.size w w'
set_option maxHeartbeats 1000000 in
theorem size_any (w : World) (b : Nat) (D : DM) (h : MapIs w b D) (hs : fSum D ≤ 1099511627776) : Calls Tryd.prog 66 #[.map (some b)] w fun e w' => e = .returned (.int .i64 (fSum D)) ∧ Below w.heap.size w w' := by
  have hstr := Lib.hid h.str
  have hlt := h.lt
  replace h := Lib.hid h
  go_enter Tryd.func66, Tryd.ntmps66
  go_wp2_with (refine wpList_range_own _ rfl (.tmp 6) 72 rfl 9 9 keyed Tryd.underlying72 (plainElem (H := Unit) Tryd.prog 9) b (fLen D) D rfl h.out ?_; intro w1 hrg hg1 hz1; go_frame)
  replace hrg := Lib.hid hrg
  replace hg1 := Lib.hid hg1
  replace hz1 := Lib.hid hz1
  go_loopw [3, 5] (fun n _ wr => ∃ k : Nat, n = .int .i64 k ∧ SizeRel w b D k wr) (fun _ _ wr => wr.rangeLeft b w.heap.size)
  case atStart => exact ⟨0, rfl, _, _, hrg.out, by rw [leftSum_start hstr.out]; simp, (Below.refl _ _).grown hg1.out (Nat.le_refl _) (by simp)⟩
  case round =>
    obtain ⟨k, rfl, left, cnt, hr, hk, hb⟩ := hrel
    have hle := leftSum_le D left
    have hkb : (k : Int) ≤ 1099511627776 := by omega
    replace hr := Lib.hid hr
    replace hk := Lib.hid hk
    replace hb := Lib.hid hb
    clear hle
    go_wp2_with (first
      | (refine wpList_next_ranges _ rfl (.tmp 7) rfl 9 keyed (plainElem (H := Unit) Tryd.prog 9) encStr strV (fun key kl hk => by obtain ⟨x, hx, _⟩ := Maps.keyOf_str Tryd.underlying9 hk; exact ⟨x, hx⟩) (fun v y hv => by obtain ⟨c, rfl, _⟩ := elemStr_inv hv; exact ⟨c, rfl⟩) b w.heap.size (fLen D) D left cnt rfl hr.out ?_ ?_))
    · intro hc0 hl0
      have hk' := hk.out
      rw [leftSum_end hl0] at hk'
      clear hl0 hc0
      have hK : Hid (k = fSum D) := Lib.hid (by omega)
      clear hk'
      go_wp2
      go_ret
      exact ⟨ret_int (by rw [hK.out]), hb.out⟩
    · intro x c kl yd yp w2 cnt2 hkey hlk hv hat hrg2 hlt2 hg2 hs2 hen
      obtain ⟨x', ex, rfl, _⟩ := Maps.keyOf_str Tryd.underlying9 hkey
      obtain rfl : x = x' := encStr_inj ex
      obtain ⟨t, et, ez, ht⟩ := elemStr_inv hv
      obtain rfl : c = t := encStr_inj et
      obtain ⟨rfl, rfl⟩ : yd = litS c ∧ yp = [] := by simpa using ez
      have hst := leftSum_step hstr.out hlk hat
      have hle2 := leftSum_le D (fun z => left z && !z.sameKey (.string x))
      have hk' := hk.out
      have hkc : (k : Int) + (c.length : Int) ≤ 1099511627776 := by omega
      have hfin : Hid ((k + c.length) + leftSum D (fun z => left z && !z.sameKey (.string x)) = fSum D) := Lib.hid (by omega)
      have hmeas : Hid (w2.rangeLeft b w.heap.size < wr.rangeLeft b w.heap.size) := Lib.hid (by rw [hrg2.left_eq, hr.out.left_eq]; exact hlt2)
      have hbel : Hid (Below w.heap.size w w2) := Lib.hid (hb.out.grown hg2 hb.out.size (fun j hj => by cases hj; exact Nat.le_refl _))
      replace hrg2 := Lib.hid hrg2
      clear hst hle2 hk' ex et ez ht hat hlk hkey hlt2 hv hs2 hg2
      unfold encStr strV at hen
      unfold encStr strV
      go_wp2
      go_roundw
      case rel => exact ⟨k + c.length, by go_num, _, _, hrg2.out, hfin.out, hbel.out⟩
      case measure => exact hmeas.out

/-! ### the closures -/
theorem max_80 {s : List UInt8} (h : s.length ≤ 80) : s.length ≤ maxLen := by unfold maxLen; omega
theorem max_24 {s : List UInt8} (h : s.length ≤ 16777216) : s.length ≤ maxLen := by unfold maxLen; omega
set_option maxHeartbeats 400000 in
theorem cl_remove (w : World) (b a : Nat) (D : DM) (s : List UInt8) (k : Int) (h : MapIs w b D) (ha : Blk w a 9 [strV s]) (hs : s.length ≤ 80) :
    Calls Tryd.prog 85 #[.map (some b), .int .i64 k, .pointer (some ⟨a, 0, none⟩)] w fun e w' => e = .returned (.tuple #[]) ∧ MapIs w' b ((DOp.remove s).act k D) ∧ Touch [b] w w' := by
  have c0 : w.cell? ⟨a, 0, none⟩ = some (strV s) := by rw [ha.cell]; rfl
  clear ha
  replace h := Lib.hid h
  go_enter Tryd.func85, Tryd.ntmps85
  go_wp2_with (at_delete; refine wpList_delete_own _ rfl (.tmp 5) (.tmp 6) 72 9 rfl 9 keyed Tryd.underlying72 (plainElem (H := Unit) Tryd.prog 9) b (fLen D) D rfl h.out (strV s) (.string s) rfl (keyStr s (max_80 hs)) ?_; intro w1 ho hm)
  exact bodyPost_end (v := .tuple #[]) (results_none (by rfl) _ _ _) rfl ⟨rfl, MapIs.of ho, Touch.grown hm.grown (by simp)⟩
set_option maxHeartbeats 400000 in
theorem cl_rename (w : World) (b a a' : Nat) (D : DM) (s t : List UInt8) (k : Int) (h : MapIs w b D) (hl : fLen D < 8796093022208) (ha : Blk w a 9 [strV s]) (ha' : Blk w a' 9 [strV t]) (hs : s.length ≤ 80) (ht : t.length ≤ 80) :
    Calls Tryd.prog 87 #[.map (some b), .int .i64 k, .pointer (some ⟨a, 0, none⟩), .pointer (some ⟨a', 0, none⟩)] w fun e w' => e = .returned (.tuple #[]) ∧ MapIs w' b ((DOp.rename s t).act k D) ∧ Touch [b] w w' := by
  have c0 : w.cell? ⟨a, 0, none⟩ = some (strV s) := by rw [ha.cell]; rfl
  have c1 : w.cell? ⟨a', 0, none⟩ = some (strV t) := by rw [ha'.cell]; rfl
  have hlook := h.look (max_80 hs)
  cases hh : fHas D s with
  | false =>
    have hact : Hid ((DOp.rename s t).act k D = D) := Lib.hid (by simp [DOp.act, hh])
    rw [hh] at hlook
    clear hh ha ha'
    replace h := Lib.hid h
    go_enter Tryd.func87, Tryd.ntmps87
    go_wp2
    refine bodyPost_end (v := .tuple #[]) (results_none (by rfl) _ _ _) rfl ⟨rfl, ?_, Touch.refl _ _⟩
    rw [hact.out]; exact h.out
  | true =>
    have hact : Hid ((DOp.rename s t).act k D = fPut (fDel D s) t (fS D s)) := Lib.hid (by simp [DOp.act, hh])
    have hle := fLen_del_le (k := s) h.str
    have htx := h.text_le (max_80 hs)
    have hb1 : a ≠ b := fun e => by
      obtain ⟨es, c, he⟩ := h.at
      subst e; unfold Blk at ha; rw [he] at ha; cases ha
    have hb2 : a' ≠ b := fun e => by
      obtain ⟨es, c, he⟩ := h.at
      subst e; unfold Blk at ha'; rw [he] at ha'; cases ha'
    rw [hh] at hlook
    replace h := Lib.hid h
    replace hle := Lib.hid hle
    replace ha := Lib.hid ha
    replace ha' := Lib.hid ha'
    replace hlook := Lib.hid hlook
    obtain ⟨x, hx⟩ : ∃ x, x = fS D s := ⟨_, rfl⟩
    rw [← hx] at hact hlook htx
    clear hh hx
    replace htx := Lib.hid htx
    have hlook' := hlook.out
    replace hb1 := Lib.hid hb1
    replace hb2 := Lib.hid hb2
    replace hl := Lib.hid hl
    go_enter Tryd.func87, Tryd.ntmps87
    go_wp2_with (first
      | (at_delete; refine wpList_delete_own _ rfl (.tmp 15) (.tmp 16) 72 9 rfl 9 keyed Tryd.underlying72 (plainElem (H := Unit) Tryd.prog 9) b (fLen D) D rfl h.out (strV s) (.string s) rfl (keyStr s (max_80 hs)) ?_; intro w1 ho hm; have c2 : w1.cell? ⟨a', 0, none⟩ = some (strV t) := (by rw [(ha'.out.grown hm.grown (by simpa using hb2.out)).cell]; rfl); replace ho := Lib.hid (MapIs.of ho); replace hm := Lib.hid hm)
      | (at_mapUpdate; refine wpList_mapUpdate_own _ rfl (.tmp 17) (.tmp 18) (.tmp 19) 72 rfl 9 9 keyed Tryd.underlying72 (plainElem (H := Unit) Tryd.prog 9) b (fLen (fDel D s)) (fDel D s) rfl ho.out (Nat.lt_of_le_of_lt hle.out (Nat.lt_of_lt_of_le hl.out (by unfold maxLen; omega))) (strV t) (strV x) (.string t) rfl rfl (keyStr t (max_80 ht)) (litS x) [] (elemStr x htx.out) ?_; intro w2 ho2 hm2; replace ho2 := Lib.hid (MapIs.of ho2); replace hm2 := Lib.hid hm2))
    refine bodyPost_end (v := .tuple #[]) (results_none (by rfl) _ _ _) rfl ⟨rfl, ?_, (Touch.grown (L := [b]) hm.out.grown (by simp)).trans (Touch.grown (L := [b]) hm2.out (by simp)) (fun i hi => .inl hi)⟩
    rw [hact.out]; exact ho2.out
theorem ext_take (t : List UInt8) (j : Nat) : (⟨t.toArray⟩ : ByteArray).extract 0 j = ⟨(t.take j).toArray⟩ := by
  apply ByteArray.ext
  simp
theorem cut_num (k : Int) (n : Nat) (h1 : 1 < k) : ∃ j : Nat, Int.tmod (k - 2) ((n : Int) + 1) = j ∧ ((k - 2) % ((n : Int) + 1)).toNat = j ∧ j ≤ n := by
  have h2 : 0 ≤ (k - 2) % ((n : Int) + 1) := Int.emod_nonneg _ (by omega)
  have h3 : (k - 2) % ((n : Int) + 1) < (n : Int) + 1 := Int.emod_lt_of_pos _ (by omega)
  refine ⟨((k - 2) % ((n : Int) + 1)).toNat, ?_, rfl, by omega⟩
  rw [Int.tmod_eq_emod_of_nonneg (by omega)]
  omega
set_option maxHeartbeats 1000000 in
theorem cl_write (w : World) (b a a' : Nat) (D : DM) (s t : List UInt8) (k : Int) (hk1 : k ≤ 9223372036854775807) (h : MapIs w b D) (hl : fLen D < 8796093022208) (ha : Blk w a 9 [strV t]) (ha' : Blk w a' 9 [strV s]) (hs : s.length ≤ 80) (ht : t.length ≤ 16777216) :
    Calls Tryd.prog 86 #[.map (some b), .int .i64 k, .pointer (some ⟨a, 0, none⟩), .pointer (some ⟨a', 0, none⟩)] w fun e w' => e = .returned (.tuple #[]) ∧ MapIs w' b ((DOp.write s t).act k D) ∧ Touch [b] w w' := by
  have c0 : w.cell? ⟨a, 0, none⟩ = some (strV t) := by rw [ha.cell]; rfl
  have c1 : w.cell? ⟨a', 0, none⟩ = some (strV s) := by rw [ha'.cell]; rfl
  have hl' : Hid (fLen D < maxLen) := Lib.hid (by unfold maxLen; omega)
  clear hl
  replace h := Lib.hid h
  clear ha ha'
  by_cases hk : 1 < k
  · obtain ⟨j, e1, e2, hj⟩ := cut_num k t.length hk
    have hact : Hid ((DOp.write s t).act k D = fPut D s (t.take j)) := Lib.hid (by simp only [DOp.act, cutT, if_pos hk, e2])
    have hjl : Hid ((t.take j).length ≤ maxLen) := Lib.hid (by rw [List.length_take]; unfold maxLen; omega)
    have e0 : IntKind.i64.wrap (k - 2) = k - 2 := IntWalk.i64_in _ (by omega)
    have e3 : IntKind.i64.wrap ((t.length : Int) + 1) = (t.length : Int) + 1 := IntWalk.i64_in _ (by omega)
    have b1 : (0 : Int) ≤ (j : Int) := by omega
    have b2 : (j : Int) ≤ (t.length : Int) := by omega
    clear hk1 e2
    unfold strV at c0
    go_enter Tryd.func86, Tryd.ntmps86
    go_wp2
    refine quiet_tail 10 (by kernel_rfl) (by kernel_rfl) ?_
    simp only [List.take_succ_cons, List.take_zero, List.drop_succ_cons, List.drop_zero]
    repeat (first
        | go_big_quiet_step (fail))
    refine wpQuiet_nil ?_
    rintro _ ⟨nq, rfl⟩
    rw [ext_take]
    refine wpList_mapUpdate_own _ rfl (.tmp 8) (.tmp 9) (.tmp 17) 72 rfl 9 9 keyed Tryd.underlying72 (plainElem (H := Unit) Tryd.prog 9) b (fLen D) D rfl h.out hl'.out (strV s) (strV (t.take j)) (.string s) rfl rfl (keyStr s (max_80 hs)) (litS (t.take j)) [] (elemStr _ hjl.out) ?_
    intro w2 ho2 hm2
    replace ho2 := Lib.hid (MapIs.of ho2)
    replace hm2 := Lib.hid hm2
    go_frame
    go_wp2
    refine bodyPost_ret (v := .tuple #[]) (results_none (by rfl) _ _ _) rfl ⟨rfl, ?_, (Touch.drewN nq).trans (Touch.grown (L := [b]) hm2.out (by simp)) (fun i hi => .inl hi)⟩
    rw [hact.out]; exact ho2.out
  · have hact : Hid ((DOp.write s t).act k D = fPut D s t) := Lib.hid (by simp only [DOp.act, cutT, if_neg hk])
    go_enter Tryd.func86, Tryd.ntmps86
    go_wp2_with (at_mapUpdate; refine wpList_mapUpdate_own _ rfl (.tmp 18) (.tmp 19) (.tmp 20) 72 rfl 9 9 keyed Tryd.underlying72 (plainElem (H := Unit) Tryd.prog 9) b (fLen D) D rfl h.out hl'.out (strV s) (strV t) (.string s) rfl rfl (keyStr s (max_80 hs)) (litS t) [] (elemStr t (max_24 ht)) ?_; intro w2 ho2 hm2; replace ho2 := Lib.hid (MapIs.of ho2); replace hm2 := Lib.hid hm2)
    refine bodyPost_end (v := .tuple #[]) (results_none (by rfl) _ _ _) rfl ⟨rfl, ?_, Touch.grown (L := [b]) hm2.out (by simp)⟩
    rw [hact.out]; exact ho2.out
end Go.Proofs.YtlenmkemjaaaoaaDoor
