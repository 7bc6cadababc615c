/- The walks of a Builder's WriteString. -/
import Derived.Test.YtlenmkemjaaaoaaDoorRfO
import Derived.Lib.Builder
import Derived.Lib.AppendStr
import Derived.Laws.Externs
namespace Go.Proofs.YtlenmkemjaaaoaaDoor
open Go.RowKit

/-- The builder in block b, of the call's own from B on, holds s. -/
def BIs (B b : Nat) (s : Str) (w : World) : Prop := Lib.IsBuilder 86 5 B b (Lib.byteCells s) w
def BAt (B b : Nat) (s : Str) (w : World) : Prop := Lib.BuilderAt 86 5 B b (.pointer (some ⟨b, 0, none⟩)) (Lib.byteCells s) w
theorem sizeBld : (Tryd.prog.info? 86).map (·.size) = some 2 := by kernel_rfl
set_option maxRecDepth 100000 in
set_option maxHeartbeats 1000000 in
theorem cc_used (b : Nat) (w : World) (h0 : w.cell? ⟨b, 0, none⟩ = some (.pointer (some ⟨b, 0, none⟩))) :
    Calls Tryd.prog 67 #[.pointer (some ⟨b, 0, none⟩)] w fun e w' => e = .returned (.tuple #[]) ∧ w = w' := by
  obtain ⟨j, hj, _⟩ := Option.map_eq_some_iff.1 sizeBld
  have hq := Lib.run_neq_ptr_same (P := Tryd.prog) w ⟨b, 0, none⟩ Tryd.underlying83 hj
  go_enter Tryd.func67, Tryd.ntmps67
  go_wp2
  go_end0
  exact ⟨rfl, rfl⟩
set_option maxRecDepth 100000 in
set_option maxHeartbeats 1000000 in
theorem cc_fresh (b : Nat) (w : World) (h0 : w.cell? ⟨b, 0, none⟩ = some (.pointer none)) (hsh : w.shape? b = some (86, 2)) (hfz : w.frozen? ⟨b, 0, none⟩ = false) :
    Calls Tryd.prog 67 #[.pointer (some ⟨b, 0, none⟩)] w fun e w' => e = .returned (.tuple #[]) ∧ w' = w.setCell ⟨b, 0, none⟩ (.pointer (some ⟨b, 0, none⟩)) := by
  obtain ⟨j, hj, hjs⟩ := Option.map_eq_some_iff.1 sizeBld
  have c1 := Lib.run_to_unsafe (P := Tryd.prog) w ⟨b, 0, none⟩ Tryd.underlying83 Tryd.underlying138 hj (by rw [hjs]; decide) hsh (Nat.zero_lt_succ 1)
  have c2 := Lib.run_from_unsafe (P := Tryd.prog) w ⟨b, 0, none⟩ Tryd.underlying138 Tryd.underlying83 hj hsh (by kernel_rfl)
  go_enter Tryd.func67, Tryd.ntmps67
  go_wp2
  rw [run_callFunc_extern Tryd.func89 (by kernel_rfl) (by kernel_rfl) (by kernel_rfl) (e := Extern.AbiNoEscape.same) (by kernel_rfl)]
  rw [Lib.run_noEscape]
  simp only [Result.andThen]
  rw [Oper.upon_value]
  go_wp2
  go_end0
  exact ⟨rfl, rfl⟩
/-- Blocks of other kinds than a builder's stay. -/
def KeepTag (w w' : World) : Prop := ∀ g t cs, Blk w g t cs → t ≠ 86 → t ≠ 5 → Blk w' g t cs
theorem KeepTag.refl (w : World) : KeepTag w w := fun _ _ _ h _ _ => h
theorem KeepTag.trans {w w1 w2 : World} (h : KeepTag w w1) (h' : KeepTag w1 w2) : KeepTag w w2 := fun _ _ _ hb h1 h2 => h' _ _ _ (h _ _ _ hb h1 h2) h1 h2
theorem KeepTag.below {w w' : World} (h : Below w.heap.size w w') : KeepTag w w' := fun _ _ _ hb _ _ => hb.below h hb.lt
theorem KeepTag.set_ {w : World} {b i : Nat} {cs : Array Value} (hb : w.heap[b]? = some (.cells cs 86 (0, 0))) (u : Value) : KeepTag w (w.setCell ⟨b, i, none⟩ u) := fun g _ _ hB h1 _ =>
  hB.far (p := ⟨b, i, none⟩) (fun e => by
    have e' : g = b := e
    subst e'
    unfold Blk at hB
    rw [hb] at hB
    injection hB with hB
    injection hB with _ ht
    exact h1 ht.symm) u
theorem KeepTag.grown {w w' : World} {B : Nat} {v : Value} {n : Nat} {xs : List Value} (ho : w.ownsRow B 5 1 v n xs) (h : w.grownBy w' v.ownBlock) : KeepTag w w' := fun g _ _ hB _ h2 =>
  hB.grown h (fun e => by
    rcases ho.2 with ⟨rfl, _⟩ | ⟨g', cap, cur, rfl, _, hg, _⟩
    · cases e
    · have e' : g = g' := by simpa [Value.ownBlock] using e
      subst e'
      unfold Blk at hB
      rw [hg] at hB
      injection hB with hB
      injection hB with _ ht
      exact h2 ht.symm)
theorem cc_any (B b : Nat) (s : Str) (w : World) (h : BIs B b s w) :
    Calls Tryd.prog 67 #[.pointer (some ⟨b, 0, none⟩)] w fun e w' => e = .returned (.tuple #[]) ∧ BAt B b s w' ∧ Below B w w' ∧ KeepTag w w' := by
  rcases h with h | h
  · refine (cc_fresh b w h.cell0 h.shape h.frozen0).mono ?_
    rintro e w' ⟨rfl, rfl⟩
    refine ⟨rfl, h.used _, (Below.refl B w).setCell (p := ⟨b, 0, none⟩) h.1 _, ?_⟩
    obtain ⟨_, v, hbk, _⟩ := h
    exact KeepTag.set_ hbk _
  · refine (cc_used b w h.cell0).mono ?_
    rintro e w' ⟨rfl, rfl⟩
    exact ⟨rfl, h, Below.refl B _, KeepTag.refl _⟩
theorem info8t : ∃ i, Tryd.prog.info? 5 = some i ∧ i.zero = some (.int .u8 0) ∧ i.size = 1 ∧ i.bytes = 1 := by
  have h := info8.info
  cases hq : Tryd.prog.info? 5 with
  | none => simp [hq] at h
  | some i =>
    simp only [hq, Option.map_some, Option.some.injEq, Prod.mk.injEq] at h
    exact ⟨i, rfl, h.1, h.2.1, h.2.2⟩
theorem byteC_len (s : Str) : (Lib.byteCells s).length = s.length := by simp [Lib.byteCells]
theorem byteC_app (s t : Str) : Lib.byteCells (s ++ t) = Lib.byteCells s ++ Lib.strCells ⟨t.toArray⟩ := by simp [Lib.byteCells, Lib.strCells]
set_option maxRecDepth 100000 in
set_option maxHeartbeats 2000000 in
theorem ws_any (B b : Nat) (s t : Str) (w : World) (h : BIs B b s w) (hl : s.length + t.length ≤ 140737488355328) (hBw : B ≤ w.heap.size) :
    Calls Tryd.prog 34 #[.pointer (some ⟨b, 0, none⟩), .string ⟨t.toArray⟩] w fun e w' => e = .returned (.tuple #[.int .i64 t.length, .nilIface]) ∧ BIs B b (s ++ t) w' ∧ Below B w w' ∧ KeepTag w w' := by
  obtain ⟨i0, hi, hz0, hz1, hz2⟩ := info8t
  have hcc := Lib.hid (cc_any B b s w h)
  have htl : (⟨t.toArray⟩ : ByteArray).size = t.length := by simp [ByteArray.size]
  have hcl := Lib.hid (byteC_len s)
  have happ := Lib.hid (byteC_app s t)
  replace hi := Lib.hid hi
  replace hz0 := Lib.hid hz0
  replace hz1 := Lib.hid hz1
  replace hz2 := Lib.hid hz2
  clear h
  go_enter Tryd.func34, Tryd.ntmps34
  go_wp2_with fail
  refine hcc.out.mono ?_
  rintro e w1 ⟨rfl, h1, hb1, hk1⟩
  replace hk1 := Lib.hid hk1
  obtain ⟨hB, v, hbk, hown, hne⟩ := h1
  have c0 : w1.cell? ⟨b, 0, none⟩ = some (.pointer (some ⟨b, 0, none⟩)) := by rw [Lib.cell_of_heap hbk]; rfl
  have c1 : w1.cell? ⟨b, 1, none⟩ = some v := by rw [Lib.cell_of_heap hbk]; rfl
  have hs1 := hb1.size
  replace hown := Lib.hid hown
  replace hbk := Lib.hid hbk
  replace hne := Lib.hid hne
  replace hb1 := Lib.hid hb1
  go_wp2_with (at_builtin; refine Lib.wpList_append_own_string _ rfl _ _ 84 9 rfl B 5 i0 Tryd.underlying84 Tryd.underlying9 hi.out hz0.out hz1.out hz2.out _ _ _ rfl hown.out ⟨t.toArray⟩ rfl ?c3 ?c4 ?c5 ?_)
  case c3 => rw [hcl.out, htl]; unfold maxLen; omega
  case c4 => rw [hcl.out, htl]; omega
  case c5 => omega
  intro v' w2 hown' hgrow _
  have hlt : b < w1.heap.size := by
    rcases Nat.lt_or_ge b w1.heap.size with h' | h'
    · exact h'
    · have := hbk.out; simp [Array.getElem?_eq_none h'] at this
  have hb2 : w2.heap[b]? = some (.cells #[.pointer (some ⟨b, 0, none⟩), v] 86 (0, 0)) := by
    rw [hgrow.block b hlt (fun e => hne.out e.symm)]
    exact hbk.out
  have d0 : w2.cell? ⟨b, 0, none⟩ = some (.pointer (some ⟨b, 0, none⟩)) := by rw [Lib.cell_of_heap hb2]; rfl
  have d1 : w2.cell? ⟨b, 1, none⟩ = some v := by rw [Lib.cell_of_heap hb2]; rfl
  have f1 : w2.frozen? ⟨b, 1, none⟩ = false := Lib.frozen_of_heap hb2 1
  obtain ⟨ao, n', cap, rfl⟩ : ∃ ao n' cap, v' = .slice ao n' cap := by
    rcases hown'.2 with ⟨hv, _⟩ | ⟨g, cap, cur, hv, _⟩
    · exact ⟨_, _, _, hv⟩
    · exact ⟨_, _, _, hv⟩
  replace hown' := Lib.hid hown'
  replace hgrow := Lib.hid hgrow
  replace hb2 := Lib.hid hb2
  go_wp2
  go_ret2
  refine ⟨by rw [← htl]; rfl, .inr ?_, ?_, (hk1.out.trans (KeepTag.grown hown.out hgrow.out)).trans (KeepTag.set_ hb2.out _)⟩
  · rw [happ.out]
    exact Lib.BuilderAt.put (T := 86) (e := 5) hB hb2.out (bs' := Lib.byteCells s ++ Lib.strCells ⟨t.toArray⟩) (by rw [List.length_append, Lib.strCells_length, htl]; exact hown'.out) (by decide)
  · exact (hb1.out.grown hgrow.out (Nat.le_trans hBw hs1) (fun k hk => (hown.out.lt k hk).1)).setCell (p := ⟨b, 1, none⟩) hB _
end Go.Proofs.YtlenmkemjaaaoaaDoor
