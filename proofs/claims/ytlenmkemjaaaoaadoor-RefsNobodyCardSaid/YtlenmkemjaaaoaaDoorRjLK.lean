/- Joined: RfL, RfK. -/
import Derived.Test.YtlenmkemjaaaoaaDoorRjIJ
section
/- One cell is read, whatever the world of a class. -/
namespace Go.Proofs.YtlenmkemjaaaoaaDoor
open Go.RowKit
section
variable {P : Program}
theorem run_loadVar_cell (w : World) (ty : TypeId) (g o : Nat) (v : Value) (hagg : (isAgg ty).run P w = .ok false w) (hc : w.cell? ⟨g, o, none⟩ = some v) : (loadVar ty ⟨g, o, none⟩).run P w = .ok v w := by
  simp [loadVar, hagg, load, Sem.run, hc]
theorem wpQuiet_cell {ops : Array Oper} {rest : List Oper} {op : Oper} {a : Act} {C : World → Prop} {Q : Act → Prop} (ty : TypeId) (x : Operand) (ho : op.op = .load ty x) (hw : Region.wanted op (yielded ops a.tmps) = true)
    (g o : Nat) (hx : a.eval x = .pointer (some ⟨g, o, none⟩)) (v : Value) (hc : ∀ w, C w → w.cell? ⟨g, o, none⟩ = some v) (hagg : ∀ w, (isAgg ty).run P w = .ok false w)
    (h : wpQuiet P ops C Q rest (a.put op.dst v)) : wpQuiet P ops C Q (op :: rest) a := by
  refine wpQuiet_run_g _ ho hw _ (fun w hw => ?_) h
  unfold execOp
  simp only [ho, hx, Instr.loadAt, Instr.sureAddr, Sem.run_bind, Sem.run_pure, Result.andThen_ok, run_loadVar_cell w ty g o v (hagg w) (hc w hw)]
end
theorem aggStr (w : World) : (isAgg 9).run Tryd.prog w = .ok false w := by kernel_rfl
theorem aggHd (w : World) : (isAgg 44).run Tryd.prog w = .ok false w := by kernel_rfl
theorem aggTab (w : World) : (isAgg 22).run Tryd.prog w = .ok false w := by kernel_rfl
theorem aggCh (w : World) : (isAgg 37).run Tryd.prog w = .ok false w := by kernel_rfl
end Go.Proofs.YtlenmkemjaaaoaaDoor
end

section
/- The walks of ContainsFunc at changes, and of wrong. -/
namespace Go.Proofs.YtlenmkemjaaaoaaDoor
open Go.RowKit

theorem beq_dec (a b : Str) : (a == b) = decide (a = b) := by
  rw [Bool.eq_iff_iff, beq_iff_eq, decide_eq_true_iff]
attribute [local go_sem] toL
set_option maxRecDepth 100000 in
set_option maxHeartbeats 1000000 in
theorem wc_any (n m : Str) (x y : Value) (g : Nat) (w : World) (hc : w.cell? ⟨g, 0, none⟩ = some (strV m)) :
    Calls Tryd.prog 75 #[.agg #[strV n, x, y], .pointer (some ⟨g, 0, none⟩)] w fun e w' => e = .returned (.bool (decide (n = m))) ∧ Below w.heap.size w w' := by
  have hlt : g < w.heap.size := World.block_lt_of_cell? _ _ hc
  have hb : Below w.heap.size w (w.alloc (.cells #[strV n, x, y] 46)) := (Below.refl _ _).alloc (Nat.le_refl _) _
  have hB : Blk (w.alloc (.cells #[strV n, x, y] 46)) w.heap.size 46 [strV n, x, y] := Blk.new_at (cs := [strV n, x, y]) rfl
  have c0 : (w.alloc (.cells #[strV n, x, y] 46)).cell? ⟨w.heap.size, 0, none⟩ = some (.string ⟨n.toArray⟩) := by rw [hB.cell]; rfl
  have c1 : (w.alloc (.cells #[strV n, x, y] 46)).cell? ⟨g, 0, none⟩ = some (.string ⟨m.toArray⟩) := by rw [hb.cell (p := ⟨g, 0, none⟩) hlt]; exact hc
  clear hB hc
  unfold strV at c0 c1 hb ⊢
  replace hb := Lib.hid hb
  go_enter Tryd.func75, Tryd.ntmps75
  go_wp2
  go_ret
  exact ⟨ret_b (beq_dec n m), hb.out⟩
/-- The index of the first change of a name, or a negative number. -/
def IxTo (w : World) (C : List Chg) (m : Str) (e : Ending) (w' : World) : Prop := ∃ z : Int, e = .returned (.int .i64 z) ∧ decide (0 ≤ z) = C.any (fun x => x.name == m) ∧ Below w.heap.size w w'
set_option maxRecDepth 100000 in
set_option maxHeartbeats 4000000 in
theorem ixf_any (C : List Chg) (v : Value) (m : Str) (g : Nat) (ok : Nat → Prop) (w : World) (h : ChsIs w ok v C) (hl : C.length ≤ 2199023255552) (hc : w.cell? ⟨g, 0, none⟩ = some (strV m)) :
    Calls Tryd.prog 95 #[v, .func (.func 75) #[] #[.pointer (some ⟨g, 0, none⟩)]] w (IxTo w C m) := by
  obtain ⟨A, c, rfl, hcc⟩ := h.form
  have hC := Lib.hid h.ltB
  have hgl : g < w.heap.size := World.block_lt_of_cell? _ _ hc
  have hcall := Lib.hid (fun n x y W => wc_any n m x y g W)
  replace hc := Lib.hid hc
  clear h hcc
  go_enter Tryd.func95, Tryd.ntmps95
  go_wp2
  go_loopw [8] (fun i wr => ∃ k : Nat, k ≤ C.length ∧ i = .int .i64 k ∧ Hid ((C.take k).any (fun x => x.name == m) = false) ∧ Below w.heap.size w wr) (fun i _ => C.length - (intOf i).toNat)
  case atStart => exact ⟨0, Nat.zero_le _, rfl, Lib.hid rfl, Below.refl _ _⟩
  case round =>
    obtain ⟨k, hk, rfl, ha, hb⟩ := hrel
    by_cases hlt : k < C.length
    · obtain ⟨b, o, x, y, rfl, hbl, _, _, _, hcells⟩ := (hC.out.low hb).ch k hlt
      have hmc : wr.cell? ⟨g, 0, none⟩ = some (strV m) := by rw [hb.cell (p := ⟨g, 0, none⟩) hgl]; exact hc.out
      have hca := Lib.hid (hcall.out C[k].name x y wr hmc)
      have hyes : Hid (C[k].name = m → C.any (fun x => x.name == m) = true) := Lib.hid (fun e => by
        rw [List.any_eq_true]
        exact ⟨C[k], List.getElem_mem hlt, by simp [e]⟩)
      have hno : Hid (C[k].name ≠ m → (C.take (k + 1)).any (fun x => x.name == m) = false) := Lib.hid (fun e => by
        rw [take_at hlt, List.any_append, ha.out]
        simp [e])
      obtain ⟨n, hn⟩ : ∃ n, n = C[k].name := ⟨_, rfl⟩
      rw [← hn] at hcells hca hyes hno
      replace hcells := Lib.hid hcells
      clear hn hmc
      obtain ⟨t, ht⟩ : ∃ t, t = decide (n = m) := ⟨_, rfl⟩
      rw [← ht] at hca
      replace ht := Lib.hid ht
      have i1 : (0 : Int) ≤ (k : Int) := by omega
      have i2 : (k : Int) < (C.length : Int) := by omega
      go_wp2_with (first
        | (refine wpList_load_at 46 (.tmp 14) rfl rfl b (o + k * 3) rfl [strV n, x, y] hcells.out _ Tryd.underlying46 rfl chSz ?_; go_frame))
      refine hca.out.mono ?_
      rintro e w2 ⟨rfl, hb2⟩
      have hb3 := hb.trans (hb2.mono hb.size)
      clear hb2
      cases t with
      | true =>
        have he : Hid (C.any (fun x => x.name == m) = true) := Lib.hid (hyes.out (by simpa using ht.out.symm))
        go_wp2
        go_ret
        exact ⟨k, rfl, by rw [he.out]; simp, hb3⟩
      | false =>
        have he : Hid ((C.take (k + 1)).any (fun x => x.name == m) = false) := Lib.hid (hno.out (by simpa using ht.out.symm))
        go_wp2
        go_roundw
        case rel => exact ⟨k + 1, by omega, by go_num, he, hb3⟩
        case measure => simp [intOf]; omega
    · obtain rfl : k = C.length := by omega
      have he : Hid (C.any (fun x => x.name == m) = false) := Lib.hid (by have := ha.out; rwa [List.take_length] at this)
      go_wp2
      go_ret
      exact ⟨-1, rfl, by rw [he.out]; rfl, hb⟩
set_option maxRecDepth 100000 in
set_option maxHeartbeats 1000000 in
theorem cf_any (C : List Chg) (v : Value) (m : Str) (g : Nat) (ok : Nat → Prop) (w : World) (h : ChsIs w ok v C) (hl : C.length ≤ 2199023255552) (hc : w.cell? ⟨g, 0, none⟩ = some (strV m)) :
    Calls Tryd.prog 74 #[v, .func (.func 75) #[] #[.pointer (some ⟨g, 0, none⟩)]] w fun e w' => e = .returned (.bool (C.any (fun x => x.name == m))) ∧ Below w.heap.size w w' := by
  have hx := Lib.hid (ixf_any C v m g ok w h hl hc)
  obtain ⟨A, c, rfl, hcc⟩ := h.form
  clear h hc hcc
  go_enter Tryd.func74, Tryd.ntmps74
  go_wp2_with fail
  refine hx.out.mono ?_
  rintro e w2 ⟨z, rfl, hz, hb2⟩
  replace hb2 := Lib.hid hb2
  obtain ⟨t, ht⟩ : ∃ t, t = C.any (fun x => x.name == m) := ⟨_, rfl⟩
  rw [← ht] at hz
  replace ht := Lib.hid ht
  go_wp2
  go_ret
  exact ⟨ret_b ht.out, hb2.out⟩
theorem getT_fit {T : Tab} (hf : TFit T) (n : Str) : HFit (getT T n) := by
  unfold getT
  split
  · rename_i b hb
    exact (hf.ok b (List.mem_of_find?_eq_some hb)).heads
  · exact ⟨Nat.zero_le _, fun d hd => by simp at hd⟩
set_option maxRecDepth 100000 in
set_option maxHeartbeats 4000000 in
theorem wrong_any (T : Tab) (C : List Chg) (c : Chg) (v u x y : Value) (ok ok' ok1 : Nat → Prop) (w : World) (h : TabIs w ok v T) (hf : TFit T) (hs : sorted T) (h' : ChsIs w ok' u C) (hl : C.length ≤ 2199023255552)
    (hx : HdIs w ok1 x c.old) (hy : HdIs w ok1 y c.new) (hc : CFit1 c) :
    Calls Tryd.prog 47 #[v, u, .agg #[strV c.name, x, y]] w fun e w' => e = .returned (.int .i64 (wrongE T C c)) ∧ Below w.heap.size w w' := by
  obtain ⟨A, tc, rfl, htc⟩ := h.form
  obtain ⟨A', cc, rfl, hcc⟩ := h'.form
  obtain ⟨XA, xc, rfl, hxc, _⟩ := id hx
  obtain ⟨YA, yc, rfl, hyc, _⟩ := id hy
  have hnl : c.name.length ≤ 140737488355328 := hc.name
  have hol : c.old.length ≤ 4398046511104 := hc.old.len
  have hwl : c.new.length ≤ 4398046511104 := hc.new.len
  have hlT := hf.len
  have hB : Blk (w.alloc (.cells #[strV c.name, .slice XA c.old.length xc, .slice YA c.new.length yc] 46)) w.heap.size 46 [strV c.name, .slice XA c.old.length xc, .slice YA c.new.length yc] := Blk.new_at (cs := [strV c.name, .slice XA c.old.length xc, .slice YA c.new.length yc]) rfl
  have hb1 : Below w.heap.size w (w.alloc (.cells #[strV c.name, .slice XA c.old.length xc, .slice YA c.new.length yc] 46)) := (Below.refl _ _).alloc (Nat.le_refl _) _
  obtain ⟨W1, hW1⟩ : ∃ W1, W1 = w.alloc (.cells #[strV c.name, .slice XA c.old.length xc, .slice YA c.new.length yc] 46) := ⟨_, rfl⟩
  rw [← hW1] at hB hb1
  have hT1 := h.stayB hb1
  have hC1 := h'.stayB hb1
  have hX1 := hx.stayB hb1
  have hY1 := hy.stayB hb1
  have hnm := Lib.hid (nm_any c.name W1 hnl)
  have hcf := Lib.hid (cf_any C _ c.name w.heap.size ok' W1 hC1 hl (by rw [hB.cell]; rfl))
  have c0 : W1.cell? ⟨w.heap.size, 0, none⟩ = some (.string ⟨c.name.toArray⟩) := by rw [hB.cell]; rfl
  have hWE : wrongE T C c = if nmOk c.name then (if C.any (fun x => x.name == c.name) then 6 else if headsE c.new = 0 then (if getT T c.name = c.old then 0 else 12) else headsE c.new) else 11 := rfl
  obtain ⟨n, hn⟩ : ∃ n, n = c.name := ⟨_, rfl⟩
  obtain ⟨a, ha⟩ : ∃ a, a = nmOk c.name := ⟨_, rfl⟩
  obtain ⟨b, hb⟩ : ∃ b, b = C.any (fun x => x.name == c.name) := ⟨_, rfl⟩
  rw [← hb] at hcf hWE
  rw [← ha] at hnm hWE
  have hor := hc.old
  have hnw := hc.new
  obtain ⟨old, ho⟩ : ∃ old, old = c.old := ⟨_, rfl⟩
  obtain ⟨new, hn2⟩ : ∃ new, new = c.new := ⟨_, rfl⟩
  obtain ⟨res, hres⟩ : ∃ res, res = wrongE T C c := ⟨_, rfl⟩
  rw [← hres] at hWE ⊢
  rw [← hn, ← ho, ← hn2] at hWE
  rw [← hn] at hnm c0 hnl
  rw [← ho] at hX1 hor hol
  rw [← hn2] at hY1 hnw hwl
  rw [← hn, ← ho, ← hn2] at hB hW1
  rw [← hn, ← ho, ← hn2]
  clear hres hb ha hn ho hn2 hc h h' hx hy htc hcc
  replace hWE := Lib.hid hWE
  replace hW1 := Lib.hid hW1
  have hf' := Lib.hid hf
  replace hT1 := Lib.hid hT1
  replace hX1 := Lib.hid hX1
  replace hY1 := Lib.hid hY1
  replace hB := Lib.hid hB
  replace hs := Lib.hid hs
  clear hC1
  unfold strV at hW1 hnm ⊢
  go_enter Tryd.func47, Tryd.ntmps47
  go_wp2_with fail
  rw [← hW1.out]
  refine hnm.out.mono ?_
  rintro e w2 ⟨rfl, rfl⟩
  cases a with
  | false =>
    have hfin : Hid (res = 11) := Lib.hid (by rw [hWE.out]; rfl)
    go_wp2
    go_ret
    exact ⟨ret_i hfin.out.symm, hb1⟩
  | true =>
    replace hWE : Hid (res = if b then 6 else if headsE new = 0 then (if getT T n = old then 0 else 12) else headsE new) := Lib.hid (by rw [hWE.out]; rfl)
    go_wp2_with fail
    refine hcf.out.mono ?_
    rintro e w2 ⟨rfl, hb2⟩
    have hbW2 := Lib.hid (hb1.trans (hb2.mono hb1.size))
    cases b with
    | true =>
      have hfin : Hid (res = 6) := Lib.hid (by rw [hWE.out]; rfl)
      clear hb2
      go_wp2
      go_ret
      exact ⟨ret_i hfin.out.symm, hbW2.out⟩
    | false =>
      replace hWE : Hid (res = if headsE new = 0 then (if getT T n = old then 0 else 12) else headsE new) := Lib.hid (by rw [hWE.out]; rfl)
      have hB2 := hB.out.below hb2 hB.out.lt
      have hT2 := Lib.hid (hT1.out.stayB hb2)
      have hX2 := Lib.hid (hX1.out.stayB hb2)
      have hY2 := Lib.hid (hY1.out.stayB hb2)
      have d2 : w2.cell? ⟨w.heap.size, 2, none⟩ = some (.slice YA new.length yc) := by rw [hB2.cell]; rfl
      replace hB2 := Lib.hid hB2
      have hcall := Lib.hid (heads_any new _ ok1 w2 hY2.out hnw)
      obtain ⟨z, hz⟩ : ∃ z, z = headsE new := ⟨_, rfl⟩
      rw [← hz] at hWE hcall
      clear hz hb2 c0 hnm hcf hB hT1 hX1 hY1 hW1
      go_wp2_with fail
      refine hcall.out.mono ?_
      rintro e w3 ⟨rfl, hb3⟩
      have hbW3 := Lib.hid (hbW2.out.trans (hb3.mono hbW2.out.size))
      by_cases hz0 : z = 0
      · subst hz0
        replace hWE : Hid (res = if getT T n = old then 0 else 12) := Lib.hid (hWE.out.trans (if_pos rfl))
        have hB3 := hB2.out.below hb3 hB2.out.lt
        have hT3 := hT2.out.stayB hb3
        have hX3 := hX2.out.stayB hb3
        obtain ⟨su, hsu, hst⟩ := stands_any T _ n ok w3 hT3 hlT hs.out
        have d0 : ∀ s : Over w3, s.1.cell? ⟨w.heap.size, 0, none⟩ = some (.string ⟨n.toArray⟩) := fun s => by rw [(blk_over hB3 s).cell]; rfl
        have d1 : ∀ s : Over w3, s.1.cell? ⟨w.heap.size, 1, none⟩ = some (.slice XA old.length xc) := fun s => by rw [(blk_over hB3 s).cell]; rfl
        have heq := Lib.hid (fun s : Over w3 => equal_any (getT T n) old su _ ok ok1 s.1 (hsu.stayB s.2) (hX3.stayB s.2) ⟨by
          have := getT_fit hf'.out n
          exact this.len, (getT_fit hf'.out n).ok⟩ hor)
        have hst' := Lib.hid (fun s : Over w3 => hst s.1 s.2)
        obtain ⟨t, ht⟩ : ∃ t, t = decide (getT T n = old) := ⟨_, rfl⟩
        rw [← ht] at heq
        have hfin : Hid (res = if t then 0 else 12) := Lib.hid (by rw [hWE.out, ht]; by_cases he : getT T n = old <;> simp [he])
        replace d0 := Lib.hid d0
        replace d1 := Lib.hid d1
        obtain ⟨SA, sc, rfl, _, _⟩ := id hsu
        clear ht hWE hst hsu hb3 hcall d2 hT3 hX3 hB3 hT2 hX2 hY2 hB2
        haveI := over_nonempty w3
        go_wp2
        refine quiet_over (by kernel_rfl) (by kernel_rfl) ?_
        repeat (first
          | (refine wpQuiet_cell 9 (.tmp 24) rfl rfl w.heap.size 0 rfl (.string ⟨n.toArray⟩) (fun w hw => ?_) aggStr ?_
             · obtain ⟨s, rfl⟩ := hw
               exact d0.out s
             go_frame)
          | (refine wpQuiet_cell 44 (.tmp 27) rfl rfl w.heap.size 1 rfl (.slice XA old.length xc) (fun w hw => ?_) aggHd ?_
             · obtain ⟨s, rfl⟩ := hw
               exact d1.out s
             go_frame)
          | go_big_quiet_step ((first
              | (go_at_call 64; exact calls_over _ (hst'.out _))
              | (go_at_call 76; exact calls_over _ (heq.out _)))))
        refine wpQuiet_nil ?_
        rintro _ ⟨s, rfl⟩
        have hb4 := hbW3.out.trans (s.2.mono hbW3.out.size)
        obtain ⟨w4, hw4⟩ := s
        dsimp only at hb4 ⊢
        clear this hw4 hst' heq d0 d1
        cases t with
        | true =>
          replace hfin : Hid (res = 0) := Lib.hid (by rw [hfin.out]; rfl)
          go_wp2
          go_ret
          exact ⟨ret_i hfin.out.symm, hb4⟩
        | false =>
          replace hfin : Hid (res = 12) := Lib.hid (by rw [hfin.out]; rfl)
          go_wp2
          go_ret
          exact ⟨ret_i hfin.out.symm, hb4⟩
      · have g1 : (z != 0) = true := by simpa using hz0
        have hfin : Hid (res = z) := Lib.hid (by rw [hWE.out, if_neg hz0])
        clear hb3
        go_wp2
        go_ret
        exact ⟨ret_i hfin.out.symm, hbW3.out⟩
end Go.Proofs.YtlenmkemjaaaoaaDoor
end
