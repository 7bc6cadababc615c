/- The walk of DiskFuses. -/
import Derived.Test.YtbfniokghocfiaaDkTw
namespace Go.Proofs.Ytbfniokghocfiaa
open Go.RowKit Go.Maps Go.Sort

theorem Inv.fused {S : DS} {n : Nat} (h : Inv S n) (f : Int) (o : Bool) (h0 : -1 ≤ f) (h1 : f ≤ 1000000) : Inv { S with fuse := f, off := o } n :=
  ⟨⟨⟨h.now, h.sure, h.ops, h.room0, h.room1, h0, h1⟩, h.sum, h.few, h.few'⟩, h.keys, h.keys', h.opn, h.len, h.re⟩
theorem fuse_same {T : DS} (c : Call) (f : Int) (ho : T.off = false) (hf : T.fuse = -1) (h0 : 0 < f) : c.errno { T with fuse := f } = c.errno T ∧ c.turn { T with fuse := f } = { c.turn T with fuse := f - 1 } := by
  obtain ⟨now, sure, pend, room, fuse, off⟩ := T
  simp only at ho hf
  subst ho
  subst hf
  have t1 : (DS.mk now sure pend room (-1) false).tick = ⟨now, sure, pend, room, -1, false⟩ := by simp [DS.tick]; omega
  have t2 : (DS.mk now sure pend room f false).tick = ⟨now, sure, pend, room, f - 1, false⟩ := by
    simp [DS.tick]
    omega
  have he : ∀ g : Int, c.err ⟨now, sure, pend, room, g, false⟩ = c.err ⟨now, sure, pend, room, -1, false⟩ := fun g => by cases c <;> rfl
  have hd : ∀ g : Int, c.done ⟨now, sure, pend, room, g, false⟩ = { c.done ⟨now, sure, pend, room, -1, false⟩ with fuse := g } := fun g => by cases c <;> rfl
  refine ⟨?_, ?_⟩
  · unfold Call.errno
    simp only [t1, t2, he]
  · unfold Call.turn
    simp only [t1, t2, he, hd (f - 1)]
    split
    · rename_i h; cases h
    · split <;> rfl
theorem fuse_dead {T : DS} (c : Call) (f : Int) (o : Bool) (h : (o = true ∧ f = -1) ∨ (o = false ∧ f = 0)) : c.errno { T with fuse := f, off := o } = 15 ∧ c.turn { T with fuse := f, off := o } = { T with fuse := -1, off := true } := by
  obtain ⟨now, sure, pend, room, fuse, off⟩ := T
  have t1 : (DS.mk now sure pend room f o).tick = ⟨now, sure, pend, room, -1, true⟩ := by
    rcases h with ⟨rfl, rfl⟩ | ⟨rfl, rfl⟩
    · simp [DS.tick]
    · simp [DS.tick]
  exact ⟨by unfold Call.errno; simp only [t1]; rfl, by unfold Call.turn; simp only [t1]; rfl⟩
def KeepA (w w' : World) : Prop := ∀ b cs, Blk w b 37 cs → Blk w' b 37 cs
theorem tw_callA {w wr : World} {ga gb : Nat} {Sa Sb : DS} (x : ActD) (h : Two w ga Sa gb Sb wr) (hA : Asked Sa) (hx : x.Ok) :
    Calls Try.prog 15 #[.pointer (some ⟨ga, 0, none⟩), .agg x.cells.toArray] wr fun e w' => e = .returned (.int .i64 (x.call.errno Sa)) ∧ Two w ga (x.call.turn Sa) gb Sb w' ∧ KeepA wr w' := by
  obtain ⟨La, Lb, ha, hb, hd, h1, h2, hB⟩ := h
  have ha' := ha
  obtain ⟨bn, bs, v, hda, rfl⟩ := ha'
  refine (call_any ga bn bs v Sa x wr hda hA hx).mono fun e w' ⟨he, hT⟩ => ⟨he, ?_, fun b cs hc => hc.touch hT.1 (ha.tag hc (by decide) (by decide))⟩
  obtain ⟨ht, L', hd', hL'⟩ := hT
  refine ⟨L', Lb, hd', hb.touch ht (fun i hi hm => hd i hm hi) ha.noBox, fun i hi hm => ?_, fun i hi => ?_, h2, hB.trans (ht.below hB.size h1)⟩
  · rcases hL' i hi with h3 | h3
    · exact hd i h3 hm
    · have := hb.lt i hm; omega
  · rcases hL' i hi with h3 | h3
    · exact h1 i h3
    · exact Nat.le_trans hB.size h3
def bAt (S : DS) (more : List ActD) (n k : Nat) : DS := runs S (more.take (min k n))
def aAt (S : DS) (more : List ActD) (n k : Nat) : DS := if k ≤ n then { bAt S more n k with fuse := (n : Int) - k } else { bAt S more n k with fuse := -1, off := true }
theorem aAt_sure (S : DS) (more : List ActD) (n k : Nat) : (aAt S more n k).sure = (bAt S more n k).sure := by unfold aAt; split <;> rfl
theorem bAt_inv {S : DS} {m : Nat} (h : Inv S m) (more : List ActD) (n k : Nat) : Inv (bAt S more n k) (m + more.length) := by
  have := Inv.runs (more.take (min k n)) h
  exact this.mono (by rw [List.length_take]; omega)
theorem aAt_inv {S : DS} {m : Nat} (h : Inv S m) (more : List ActD) (n k : Nat) (hn : n ≤ 20) : Inv (aAt S more n k) (m + more.length) := by
  have := bAt_inv h more n k
  unfold aAt
  split
  · have h2 := this.fused ((n : Int) - k) (bAt S more n k).off (by omega) (by omega)
    exact h2
  · exact this.fused (-1) true (by omega) (by omega)
theorem step_yes {S : DS} {more : List ActD} {n k : Nat} (ho : S.off = false) (hf : S.fuse = -1) (hk : k < more.length) (hn : k < n) :
    more[k].call.errno (aAt S more n k) = more[k].call.errno (bAt S more n k) ∧ more[k].call.turn (aAt S more n k) = aAt S more n (k + 1) ∧ more[k].call.turn (bAt S more n k) = bAt S more n (k + 1) ∧
      (aAt S more n (k + 1)).off = false ∧ (bAt S more n (k + 1)).off = false ∧ (aAt S more n (k + 1)).now = (bAt S more n (k + 1)).now := by
  have hb : bAt S more n (k + 1) = more[k].call.turn (bAt S more n k) := by
    unfold bAt
    rw [Nat.min_eq_left (by omega), Nat.min_eq_left (by omega), List.take_succ_eq_append_getElem hk, runs_snoc]
  obtain ⟨l1, l2⟩ := runs_live (more.take (min k n)) ho hf
  have l1' : (bAt S more n k).off = false := l1
  have l2' : (bAt S more n k).fuse = -1 := l2
  obtain ⟨e1, e2⟩ := fuse_same (T := bAt S more n k) more[k].call ((n : Int) - k) l1' l2' (by omega)
  have ha : aAt S more n k = { bAt S more n k with fuse := (n : Int) - k } := by unfold aAt; rw [if_pos (by omega)]
  have ha2 : aAt S more n (k + 1) = { bAt S more n (k + 1) with fuse := (n : Int) - (k + 1 : Nat) } := by unfold aAt; rw [if_pos (by omega)]
  obtain ⟨m1, m2⟩ := turn_live more[k].call l1' l2'
  refine ⟨by rw [ha]; exact e1, ?_, hb.symm, ?_, ?_, by rw [ha2]⟩
  · rw [ha, e2, ha2, hb, show (n : Int) - (k + 1 : Nat) = (n : Int) - k - 1 from by omega]
  · rw [ha2]; show (bAt S more n (k + 1)).off = false; rw [hb]; exact m1
  · rw [hb]; exact m1
theorem step_no {S : DS} {more : List ActD} {n k : Nat} (ho : S.off = false) (hf : S.fuse = -1) (c : Call) (hn : n ≤ k) :
    c.errno (aAt S more n k) = 15 ∧ c.turn (aAt S more n k) = aAt S more n (k + 1) ∧ bAt S more n (k + 1) = bAt S more n k ∧ (aAt S more n (k + 1)).off = true := by
  have hb : bAt S more n (k + 1) = bAt S more n k := by
    unfold bAt
    rw [Nat.min_eq_right (by omega), Nat.min_eq_right (by omega)]
  have ha2 : aAt S more n (k + 1) = { bAt S more n k with fuse := -1, off := true } := by unfold aAt; rw [if_neg (by omega), hb]
  obtain ⟨l1, _⟩ := runs_live (more.take (min k n)) ho hf
  have l1' : (bAt S more n k).off = false := l1
  have h : c.errno (aAt S more n k) = 15 ∧ c.turn (aAt S more n k) = { bAt S more n k with fuse := -1, off := true } := by
    by_cases hk : k ≤ n
    · have ha : aAt S more n k = { bAt S more n k with fuse := 0, off := false } := by
        unfold aAt
        rw [if_pos hk, show (n : Int) - k = 0 from by omega]
        generalize bAt S more n k = T at l1'
        obtain ⟨now, sure, pend, room, fuse, off⟩ := T
        simp only at l1'
        rw [l1']
      rw [ha]
      exact fuse_dead c 0 false (.inr ⟨rfl, rfl⟩)
    · have ha : aAt S more n k = { bAt S more n k with fuse := -1, off := true } := by unfold aAt; rw [if_neg hk]
      rw [ha]
      exact fuse_dead c (-1) true (.inl ⟨rfl, rfl⟩)
  exact ⟨h.1, by rw [h.2, ha2], hb, by rw [ha2]⟩
set_option maxRecDepth 100000 in
set_option maxHeartbeats 4000000 in
theorem fuses_any (acts : List ActD) (A : Option Addr) (c : Nat) (r : Int) (hr : (Lit.int .i64 r).wf = true) (more : List ActD) (B : Option Addr) (d : Nat) (w : World) (hA : AIn w A acts) (hB : AIn w B more) :
    Calls Try.prog 6 #[.slice A acts.length c, .int .i64 r, .slice B more.length d] w fun e w' => e = .returned (.bool true) ∧ Below w.heap.size w w' := by
  have hrb : -9223372036854775808 ≤ r ∧ r ≤ 9223372036854775807 := by simpa [Lit.wf, IntKind.min, IntKind.max, IntKind.signed, IntKind.bits] using hr
  obtain ⟨hr1, hr2⟩ := hrb
  have hq1 : -19 ≤ Int.tmod r 20 := by have := Int.tmod_lt_of_pos (-r) (show (0 : Int) < 20 by omega); rw [Int.neg_tmod] at this; omega
  have hq2 : Int.tmod r 20 ≤ 19 := by have := Int.tmod_lt_of_pos r (show (0 : Int) < 20 by omega); omega
  obtain ⟨q, hq⟩ : ∃ q, q = Int.tmod r 20 := ⟨_, rfl⟩
  rw [← hq] at hq1 hq2
  have hqt : Int.tmod r 20 = q := hq.symm
  clear hq hr
  obtain ⟨n, hn⟩ : ∃ n : Nat, (q + 20) % 20 = n := ⟨((q + 20) % 20).toNat, by omega⟩
  have hn' : q % 20 = n := by omega
  have hn20 : n ≤ 20 := by omega
  have hp := Lib.hid (fun wr (hb : Below w.heap.size w wr) => played_any acts A c wr (hA.rd.below (Nat.le_refl _) hb) hA.ok hA.len)
  have hI := inv_played acts
  obtain ⟨ho, hf⟩ := live_played acts
  obtain ⟨S, hS⟩ : ∃ S, S = runs (DS.new 65536) acts := ⟨_, rfl⟩
  rw [← hS] at hp hI ho hf
  clear hS
  have hal := hA.len
  have hbl := hB.len
  replace hB := Lib.hid hB
  replace hI := Lib.hid hI
  replace ho := Lib.hid ho
  replace hf := Lib.hid hf
  clear hA
  go_enter Try.func6, Try.ntmps6
  go_wp2_with fail
  refine (hp.out w (Below.refl _ _)).mono ?_
  rintro e w1 ⟨ga, rfl, h1⟩
  replace h1 := Lib.hid h1
  go_wp2_with fail
  refine (hp.out w1 h1.out.base).mono ?_
  rintro e w2 ⟨gb, rfl, Lb, hd2, hL2, hb2⟩
  have h2 := Lib.hid (Two.mk h1.out hb2 hd2 hL2)
  clear hd2 hL2 hb2
  go_wp2_with fail
  refine (alive_any w2).mono ?_
  rintro e w3 ⟨rfl, hb3⟩
  have h3 := Lib.hid (h2.out.below hb3)
  clear hb3
  go_wp2_with fail
  refine (tw_fuse (n : Int) h3.out).mono ?_
  rintro e w4 ⟨rfl, h4, _⟩
  have hmx : max (n : Int) (-1) = n := by omega
  rw [hmx] at h4
  clear hmx
  replace h4 := Lib.hid h4
  go_wp2_with fail
  try rw [hn']
  try rw [hn]
  clear hqt hn hn'
  go_loopw [37] (fun i wr => ∃ k : Nat, k ≤ more.length ∧ i = .int .i64 k ∧ Two w ga (aAt S more n k) gb (bAt S more n k) wr) (fun i _ => more.length - (intOf i).toNat)
  case atStart =>
    refine ⟨0, Nat.zero_le _, rfl, ?_⟩
    have e1 : bAt S more n 0 = S := by simp [bAt, runs]
    have e2 : aAt S more n 0 = { S with fuse := (n : Int) } := by unfold aAt; rw [if_pos (Nat.zero_le _), e1]; simp
    rw [e1, e2]
    exact h4.out
  case round =>
    obtain ⟨k, hk, rfl, hT⟩ := hrel
    by_cases hlt : k < more.length
    · obtain ⟨b, o, rfl, hc⟩ := hB.out.rd (by omega)
      have hcr : ∀ j v, more[k].cells[j]? = some v → wr.cell? ⟨b, o + k * 7 + j, none⟩ = some v := fun j v hv => by
        have h1 := hc k more[k] (List.getElem?_eq_getElem hlt) j v hv
        have hlt : b < w.heap.size := World.block_lt_of_cell? _ _ h1
        rw [hT.base.cell (p := ⟨b, o + k * 7 + j, none⟩) hlt]
        exact h1
      have hxo := hB.out.ok more[k] (List.getElem_mem hlt)
      have hia := aAt_inv hI.out more n k hn20
      have hib := bAt_inv hI.out more n k
      have hib2 := bAt_inv hI.out more n (k + 1)
      have hask := hia.asked (by omega)
      have hbsk := hib.asked (by omega)
      have hyes := fun h => step_yes (S := S) (more := more) (n := n) (k := k) ho.out hf.out hlt h
      have hno := fun h => step_no (S := S) (more := more) (n := n) (k := k) ho.out hf.out more[k].call h
      obtain ⟨x, hx⟩ : ∃ x, x = more[k] := ⟨_, rfl⟩
      rw [← hx] at hcr hxo hyes hno
      clear hx hc hia hib
      have hb1 : Below wr.heap.size wr ((wr.alloc (.cells #[Value.int .i64 0, .bool false, .string ⟨#[]⟩, .string ⟨#[]⟩, .string ⟨#[]⟩, .int .i64 0, .slice none 0 0] 37)).setRow wr.heap.size x.cells.toArray) := below_setRow ((Below.refl _ _).alloc (Nat.le_refl _) _) (Nat.le_refl _) _
      have hbox : Blk ((wr.alloc (.cells #[Value.int .i64 0, .bool false, .string ⟨#[]⟩, .string ⟨#[]⟩, .string ⟨#[]⟩, .int .i64 0, .slice none 0 0] 37)).setRow wr.heap.size x.cells.toArray) wr.heap.size 37 x.cells := (Blk.new_at (cs := zeroAct) rfl).setRow_same _
      obtain ⟨W2, hW2⟩ : ∃ W2, W2 = (wr.alloc (.cells #[Value.int .i64 0, .bool false, .string ⟨#[]⟩, .string ⟨#[]⟩, .string ⟨#[]⟩, .int .i64 0, .slice none 0 0] 37)).setRow wr.heap.size x.cells.toArray := ⟨_, rfl⟩
      rw [← hW2] at hb1 hbox
      have hP2 := hT.below hb1
      obtain ⟨Sa, hSa⟩ : ∃ Sa, Sa = aAt S more n k := ⟨_, rfl⟩
      obtain ⟨Sb, hSb⟩ : ∃ Sb, Sb = bAt S more n k := ⟨_, rfl⟩
      obtain ⟨Sa2, hSa2⟩ : ∃ Sa2, Sa2 = aAt S more n (k + 1) := ⟨_, rfl⟩
      obtain ⟨Sb2, hSb2⟩ : ∃ Sb2, Sb2 = bAt S more n (k + 1) := ⟨_, rfl⟩
      rw [← hSa, ← hSb] at hP2
      rw [← hSa] at hask
      rw [← hSb] at hbsk
      rw [← hSb2] at hib2
      rw [← hSa, ← hSb, ← hSa2, ← hSb2] at hyes
      rw [← hSa, ← hSb, ← hSa2, ← hSb2] at hno
      have hcall : Hid (∀ wr', Two w ga Sa gb Sb wr' → Calls Try.prog 15 #[.pointer (some ⟨ga, 0, none⟩), .agg x.cells.toArray] wr' fun e w' => e = .returned (.int .i64 (x.call.errno Sa)) ∧ Two w ga (x.call.turn Sa) gb Sb w' ∧ KeepA wr' w') := Lib.hid (fun wr' h => tw_callA x h hask hxo)
      have hcallb : Hid (∀ wr' S0, Two w gb Sb ga S0 wr' → Calls Try.prog 15 #[.pointer (some ⟨gb, 0, none⟩), .agg x.cells.toArray] wr' fun e w' => e = .returned (.int .i64 (x.call.errno Sb)) ∧ Two w gb (x.call.turn Sb) ga S0 w' ∧ KeepA wr' w') := Lib.hid (fun wr' S0 h => tw_callA x h hbsk hxo)
      have hsz : Hid ((Try.prog.info? 37).map (·.size) = some x.cells.length) := Lib.hid actSz
      have hone := Lib.hid (act_one x)
      have hzl : Hid (zeroAct.length = x.cells.length) := Lib.hid rfl
      obtain ⟨cs, hcs⟩ : ∃ cs, cs = x.cells := ⟨_, rfl⟩
      rw [← hcs] at hcr hbox hcall hcallb hsz hone hzl hW2
      replace hcs := Lib.hid hcs
      replace hW2 := Lib.hid hW2
      replace hcr := Lib.hid hcr
      replace hbox := Lib.hid hbox
      replace hP2 := Lib.hid hP2
      replace hib2 := Lib.hid hib2
      replace hSa2 := Lib.hid hSa2
      replace hSb2 := Lib.hid hSb2
      clear hT hb1 hask hbsk hxo hSa hSb
      have i1 : (0 : Int) ≤ (k : Int) := by omega
      have i2 : (k : Int) < (more.length : Int) := by omega
      by_cases hkn : k < n
      · obtain ⟨y1, y2, y3, y4, y5, y6⟩ := hyes hkn
        clear hyes hno
        have dk : decide ((n : Int) ≤ (k : Int)) = false := by simp; omega
        have dk' : decide (n ≤ k) = false := by simp; omega
        rw [y1, y2] at hcall
        rw [y3] at hcallb
        obtain ⟨e0, he0⟩ : ∃ e0, e0 = x.call.errno Sb := ⟨_, rfl⟩
        rw [← he0] at hcall hcallb
        have dE : (e0 != e0) = false := by simp
        replace y4 := Lib.hid y4
        replace y5 := Lib.hid y5
        replace y6 := Lib.hid y6
        clear he0 y1 y2 y3
        go_wp2_with (first
          | (refine wpList_load_mid rfl 37 (.tmp 40) rfl b (o + k * 7) rfl cs _ hcr.out Try.underlying37 rfl hsz.out ?_; go_frame)
          | (refine wpList_store_blk rfl 37 (.tmp 10) (.tmp 41) rfl wr.heap.size cs rfl rfl 37 zeroAct (Blk.new_at rfl) hzl.out hsz.out hone.out ?_; rw [show (wr.alloc (.cells #[Value.int .i64 0, .bool false, .string ⟨#[]⟩, .string ⟨#[]⟩, .string ⟨#[]⟩, .int .i64 0, .slice none 0 0] 37)).setRow wr.heap.size cs.toArray = W2 from hW2.out.symm]; go_frame)
          | (refine wpList_load_blk rfl 37 (.tmp 10) rfl wr.heap.size rfl 37 cs hbox.out _ Try.underlying37 rfl hsz.out ?_; go_frame))
        refine (hcall.out _ hP2.out).mono ?_
        rintro e w5 ⟨rfl, h5, ka5⟩
        have hbox5 : Hid (Blk w5 wr.heap.size 37 cs) := Lib.hid (ka5 _ _ hbox.out)
        clear ka5
        replace h5 := Lib.hid h5
        go_wp2_with (first
          | (refine wpList_load_blk rfl 37 (.tmp 10) rfl wr.heap.size rfl 37 cs hbox5.out _ Try.underlying37 rfl hsz.out ?_; go_frame))
        refine (hcallb.out _ _ h5.out.swap).mono ?_
        rintro e w6 ⟨rfl, h6, _⟩
        replace h6 := Lib.hid h6.swap
        go_wp2_with fail
        refine (pr_files h6.out.left y4.out (by rw [y6.out]; have := hib2.out.few; omega) (by rw [y6.out]; exact hib2.out.keys)).mono ?_
        rintro e w7 ⟨v7, rfl, hf7, hb7⟩
        rw [y6.out] at hf7
        obtain ⟨A7, c7, rfl⟩ := files_form hf7
        have h7 := Lib.hid (h6.out.below hb7)
        replace hf7 := Lib.hid hf7
        clear hb7
        go_wp2_with fail
        refine (pr_files h7.out.right y5.out (by have := hib2.out.few; omega) hib2.out.keys).mono ?_
        rintro e w8 ⟨v8, rfl, hf8, hb8⟩
        obtain ⟨A8, c8, rfl⟩ := files_form hf8
        have h8 := Lib.hid (h7.out.below hb8)
        have hf7' := Lib.hid (hf7.out.below hb8)
        replace hf8 := Lib.hid hf8
        clear hb8
        go_wp2_with fail
        refine (same_any (fFiles Sb2.now) A7 A8 c7 c8 _ _ w8 hf7'.out hf8.out (files_small hib2.out)).mono ?_
        rintro e w9 ⟨rfl, hb9⟩
        have h9 := Lib.hid (h8.out.below hb9)
        clear hb9
        go_wp2
        go_roundw
        case rel => exact ⟨k + 1, by omega, by go_num, by rw [← hSa2.out, ← hSb2.out]; exact h9.out⟩
        case measure => simp [intOf]; omega
      · obtain ⟨y1, y2, y3, y4⟩ := hno (by omega)
        clear hyes hno
        have dk : decide ((n : Int) ≤ (k : Int)) = true := by simp; omega
        have dk' : decide (n ≤ k) = true := by simp; omega
        rw [y1, y2] at hcall
        have hrE : Hid (Sa2.readE [97] = 15) := Lib.hid (by simp [DS.readE, y4])
        replace y3 := Lib.hid y3
        replace y4 := Lib.hid y4
        clear y1 y2
        go_wp2_with (first
          | (refine wpList_load_mid rfl 37 (.tmp 40) rfl b (o + k * 7) rfl cs _ hcr.out Try.underlying37 rfl hsz.out ?_; go_frame)
          | (refine wpList_store_blk rfl 37 (.tmp 10) (.tmp 41) rfl wr.heap.size cs rfl rfl 37 zeroAct (Blk.new_at rfl) hzl.out hsz.out hone.out ?_; rw [show (wr.alloc (.cells #[Value.int .i64 0, .bool false, .string ⟨#[]⟩, .string ⟨#[]⟩, .string ⟨#[]⟩, .int .i64 0, .slice none 0 0] 37)).setRow wr.heap.size cs.toArray = W2 from hW2.out.symm]; go_frame)
          | (refine wpList_load_blk rfl 37 (.tmp 10) rfl wr.heap.size rfl 37 cs hbox.out _ Try.underlying37 rfl hsz.out ?_; go_frame))
        refine (hcall.out _ hP2.out).mono ?_
        rintro e w5 ⟨rfl, h5, _⟩
        rw [← y3.out] at h5
        replace h5 := Lib.hid h5
        go_wp2_with fail
        refine (pr_read [97] h5.out.left (by simp)).mono ?_
        rintro e w6 ⟨rfl, rfl⟩
        rw [hrE.out]
        go_wp2_with fail
        obtain ⟨La, ⟨bn, bs, dv, hda, rfl⟩, _, _⟩ := h5.out.left
        refine (names_off ga bn bs dv Sa2 w5 hda y4.out).mono ?_
        rintro e w6 ⟨rfl, rfl⟩
        replace hda := Lib.hid hda
        go_wp2_with fail
        refine (dsize_off ga bn bs dv Sa2 w5 hda.out y4.out).mono ?_
        rintro e w6 ⟨rfl, rfl⟩
        go_wp2
        go_roundw
        case rel => exact ⟨k + 1, by omega, by go_num, by rw [← hSa2.out, ← hSb2.out]; exact h5.out⟩
        case measure => simp [intOf]; omega
    · have hke : k = more.length := by omega
      subst hke
      have hia := aAt_inv hI.out more n more.length hn20
      have hib := bAt_inv hI.out more n more.length
      have hsu := aAt_sure S more n more.length
      obtain ⟨Sa, hSa⟩ : ∃ Sa, Sa = aAt S more n more.length := ⟨_, rfl⟩
      obtain ⟨Sb, hSb⟩ : ∃ Sb, Sb = bAt S more n more.length := ⟨_, rfl⟩
      rw [← hSa, ← hSb] at hT hsu
      rw [← hSa] at hia
      rw [← hSb] at hib
      clear hSa hSb
      have hna : (Sa.crash []).now = Sb.sure := by rw [crash_all_now, hsu]
      have hnb : (Sb.crash []).now = Sb.sure := crash_all_now _
      have hFa : (Sa.crash []).Fit := ⟨by rw [hna]; exact hib.sure, by rw [crash_all_sure]; exact hia.sure, by simp [DS.crash], hia.room0, hia.room1, by simp [DS.crash], by simp [DS.crash]⟩
      obtain ⟨s1, s2⟩ := sync_now (S := Sa.crash []) rfl rfl
      replace hT := Lib.hid hT
      replace hia := Lib.hid hia
      replace hib := Lib.hid hib
      replace hna := Lib.hid hna
      replace hnb := Lib.hid hnb
      replace hFa := Lib.hid hFa
      replace s1 := Lib.hid s1
      clear hsu s2
      go_wp2_with fail
      refine (tw_crash [] none 0 hT.out hia.out.toFit (by have := hia.out.few'; have := hia.out.len; omega) (fun _ _ _ => nums_nil) (by simp) (by simp)).mono ?_
      rintro e w5 ⟨rfl, h5, _⟩
      replace h5 := Lib.hid h5.swap
      go_wp2_with fail
      refine (tw_crash [] none 0 h5.out hib.out.toFit (by have := hib.out.few'; have := hib.out.len; omega) (fun _ _ _ => nums_nil) (by simp) (by simp)).mono ?_
      rintro e w6 ⟨rfl, h6, _⟩
      replace h6 := Lib.hid h6.swap
      go_wp2_with fail
      refine (pr_files h6.out.left rfl (by rw [hna.out]; have := hib.out.few'; omega) (by rw [hna.out]; exact hib.out.keys')).mono ?_
      rintro e w7 ⟨v7, rfl, hf7, hb7⟩
      rw [hna.out] at hf7
      obtain ⟨A7, c7, rfl⟩ := files_form hf7
      have h7 := Lib.hid (h6.out.below hb7)
      replace hf7 := Lib.hid hf7
      clear hb7
      go_wp2_with fail
      refine (pr_files h7.out.right rfl (by rw [hnb.out]; have := hib.out.few'; omega) (by rw [hnb.out]; exact hib.out.keys')).mono ?_
      rintro e w8 ⟨v8, rfl, hf8, hb8⟩
      rw [hnb.out] at hf8
      obtain ⟨A8, c8, rfl⟩ := files_form hf8
      have h8 := Lib.hid (h7.out.below hb8)
      have hf7' := Lib.hid (hf7.out.below hb8)
      replace hf8 := Lib.hid hf8
      clear hb8
      go_wp2_with fail
      refine (same_any (fFiles Sb.sure) A7 A8 c7 c8 _ _ w8 hf7'.out hf8.out (by rw [files_len]; have := hib.out.few'; omega)).mono ?_
      rintro e w9 ⟨rfl, hb9⟩
      have h9 := Lib.hid (h8.out.below hb9)
      clear hb9
      go_wp2_with fail
      refine (tw_sync h9.out hFa.out).mono ?_
      rintro e w10 ⟨rfl, h10, _⟩
      rw [s1.out]
      replace h10 := Lib.hid h10
      go_wp2
      go_ret
      exact ⟨rfl, h10.out.base⟩
end Go.Proofs.Ytbfniokghocfiaa
