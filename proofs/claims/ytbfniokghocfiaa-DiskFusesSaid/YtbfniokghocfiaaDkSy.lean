/- The walk of DiskSynced. -/
import Derived.Test.YtbfniokghocfiaaDkK
namespace Go.Proofs.Ytbfniokghocfiaa
open Go.RowKit Go.Maps Go.Sort

/-- The choices that came in. -/
structure ChIn (w : World) (A : Option Addr) (l : List Int) : Prop where
  rd : Nums w (fun b => b < w.heap.size) A l
  le : ∀ x ∈ l, x ≤ 9223372036854775807
  len : l.length ≤ 140737488355328
theorem ChIn.nums {w wr : World} {A : Option Addr} {l : List Int} {g : Nat} {S : DS} (h : ChIn w A l) (hb : Below w.heap.size w wr) : ∀ L, (∀ i ∈ L, w.heap.size ≤ i) → DiskIs wr L g S → Nums wr (fun b => b ∉ L ∧ b < wr.heap.size) A l := fun L hL _ => by
  intro hn
  obtain ⟨ad, e, hbl, hc⟩ := h.rd hn
  have hbl' : ad.block < w.heap.size := hbl
  refine ⟨ad, e, ⟨fun hm => ?_, Nat.lt_of_lt_of_le hbl' hb.size⟩, fun j u hu => ?_⟩
  · have := hL _ hm; omega
  · rw [hb.cell (p := ad.add j) (by rw [block_add]; exact hbl')]; exact hc j u hu
/-- The acts that came in. -/
structure AIn (w : World) (A : Option Addr) (acts : List ActD) : Prop where
  rd : ActsIn w A acts
  ok : ∀ x ∈ acts, x.Ok
  len : acts.length ≤ 1466015503680
theorem PlayRel.base {w wr : World} {g : Nat} {S : DS} (h : PlayRel w g S wr) : Below w.heap.size w wr := by
  obtain ⟨_, _, _, hb⟩ := h; exact hb
theorem files_form {w : World} {base : Nat} {v : Value} {l : List (List UInt8 × List UInt8)} (h : FilesIs w base v l) : ∃ A c, v = .slice A l.length c := by
  obtain ⟨A, c, e, _⟩ := own_form h
  exact ⟨A, c, e⟩
theorem inv_played (acts : List ActD) : Inv (runs (DS.new 65536) acts) acts.length := by
  have := Inv.runs acts (Inv.new (room := 65536) (by omega) (by omega))
  simpa using this
theorem live_played (acts : List ActD) : (runs (DS.new 65536) acts).off = false ∧ (runs (DS.new 65536) acts).fuse = -1 := runs_live acts rfl rfl
theorem files_small {S : DS} {n : Nat} (h : Inv S n) : (fFiles S.now).length ≤ 4398046511104 := by
  rw [files_len]; have := h.few; omega
theorem sync_now {S : DS} (ho : S.off = false) (hf : S.fuse = -1) : Call.sync.errno S = 0 ∧ Call.sync.turn S = { S with off := false, fuse := -1, sure := S.now, pend := [] } := by
  have ht : S.tick = { S with off := false, fuse := -1 } := by simp [DS.tick, ho, hf]; rfl
  refine ⟨by simp [Call.errno, ht, Call.err], by simp [Call.turn, ht, Call.err, Call.done]⟩
set_option maxHeartbeats 2000000 in
theorem synced_any (acts : List ActD) (A : Option Addr) (c : Nat) (l : List Int) (B : Option Addr) (d : Nat) (w : World) (hA : AIn w A acts) (hB : ChIn w B l) :
    Calls Try.prog 3 #[.slice A acts.length c, .slice B l.length d] w fun e w' => e = .returned (.bool true) ∧ Below w.heap.size w w' := by
  have hp := Lib.hid (played_any acts A c w hA.rd hA.ok hA.len)
  have hI := inv_played acts
  obtain ⟨ho, hf⟩ := live_played acts
  obtain ⟨S, hS⟩ : ∃ S, S = runs (DS.new 65536) acts := ⟨_, rfl⟩
  rw [← hS] at hp hI ho hf
  clear hS
  obtain ⟨s1, s2⟩ := sync_now ho hf
  have hI2 := hI.turn .sync
  rw [s2] at hI2
  have hal := hA.len
  replace hB := Lib.hid hB
  replace hI := Lib.hid hI
  replace hI2 := Lib.hid hI2
  replace ho := Lib.hid ho
  replace s1 := Lib.hid s1
  replace s2 := Lib.hid s2
  clear hA hf
  go_enter Try.func3, Try.ntmps3
  go_wp2_with fail
  refine hp.out.mono ?_
  rintro e w1 ⟨g, rfl, h1⟩
  replace h1 := Lib.hid h1
  go_wp2_with fail
  refine (alive_any w1).mono ?_
  rintro e w2 ⟨rfl, hb2⟩
  have h2 := Lib.hid (h1.out.below hb2)
  clear hb2
  go_wp2_with fail
  refine (pr_files h2.out ho.out (by have := hI.out.few; omega) hI.out.keys).mono ?_
  rintro e w3 ⟨v3, rfl, hf3, hb3⟩
  obtain ⟨A3, c3, rfl⟩ := files_form hf3
  have h3 := Lib.hid (h2.out.below hb3)
  replace hf3 := Lib.hid hf3
  clear hb3
  go_wp2_with fail
  refine (pr_sync h3.out hI.out.toFit).mono ?_
  rintro e w4 ⟨rfl, h4, k4⟩
  rw [s1.out]
  rw [s2.out] at h4
  have hf4 := Lib.hid (k4 _ _ _ hf3.out)
  replace h4 := Lib.hid h4
  clear k4
  go_wp2_with fail
  refine (pr_crash l B d h4.out hI2.out.toFit (by have := hI2.out.few'; simp only [List.length_nil] at *; omega) (hB.out.nums h4.out.base) hB.out.le hB.out.len).mono ?_
  rintro e w5 ⟨rfl, h5, k5⟩
  have hf5 := Lib.hid (k5 _ _ _ hf4.out)
  replace h5 := Lib.hid h5
  clear k5
  go_wp2_with fail
  have hnow : (DS.crash { S with off := false, fuse := -1, sure := S.now, pend := [] } l).now = S.now := rfl
  refine (pr_files h5.out rfl (by rw [hnow]; have := hI.out.few; omega) (by rw [hnow]; exact hI.out.keys)).mono ?_
  rintro e w6 ⟨v6, rfl, hf6, hb6⟩
  rw [hnow] at hf6
  obtain ⟨A6, c6, rfl⟩ := files_form hf6
  have h6 := Lib.hid (h5.out.below hb6)
  have hf5' := Lib.hid (hf5.out.below hb6)
  replace hf6 := Lib.hid hf6
  clear hb6 hnow
  go_wp2_with fail
  refine (same_any (fFiles S.now) A6 A3 c6 c3 _ _ w6 hf6.out hf5'.out (files_small hI.out)).mono ?_
  rintro e w7 ⟨rfl, hb7⟩
  have h7 := Lib.hid (h6.out.below hb7)
  clear hb7
  go_wp2
  go_ret
  exact ⟨rfl, h7.out.base⟩
end Go.Proofs.Ytbfniokghocfiaa
