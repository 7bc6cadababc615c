/- Joined: RfN, RfO, RfB, RfY, RjCD, RfF, RfZ, RfE. -/
import Derived.RangeFuncOwn
import Derived.Test.YtamdhaoglapnnaaGreatDoorM03
import Derived.Lib.Builder
import Derived.Lib.AppendStr
import Derived.Laws.Externs
import Derived.Test.YtamdhaoglapnnaaGreatDoorM01
section
/- The walk of the reference's Name; letters, case by case. -/
namespace Go.Proofs.YtamdhaoglapnnaaGreatDoor
open Go.RowKit

def letCase (x : Int) (c : UInt8) : Prop :=
  (65 ≤ x ∧ x ≤ 90 ∧ isLet c = true) ∨ (97 ≤ x ∧ x ≤ 122 ∧ isLet c = true) ∨ (48 ≤ x ∧ x ≤ 57 ∧ isLet c = true) ∨ (x = 45 ∧ isLet c = true) ∨ (x = 95 ∧ isLet c = true) ∨ (x = 46 ∧ isLet c = true) ∨ (x = 35 ∧ isLet c = true) ∨ (x = 64 ∧ isLet c = true) ∨ (x = 126 ∧ isLet c = true) ∨
  (isLet c = false ∧ (x ≠ 45 ∧ x ≠ 95 ∧ x ≠ 46 ∧ x ≠ 35 ∧ x ≠ 64 ∧ x ≠ 126) ∧ (x < 48 ∨ (57 < x ∧ x < 65) ∨ (90 < x ∧ x < 97) ∨ 122 < x))
instance (x : Int) (c : UInt8) : Decidable (letCase x c) := by unfold letCase; infer_instance
theorem let_all : ∀ n : Fin 256, letCase (bv (UInt8.ofNat n.1)) (UInt8.ofNat n.1) := by decide +kernel
theorem let_case (c : UInt8) : letCase (bv c) c := by
  have := let_all ⟨c.toNat, c.toNat_lt⟩
  simpa using this
theorem all_take_succ {s : Str} {k : Nat} (hk : k < s.length) (h : (s.take k).all isLet = true) (hc : isLet s[k] = true) : (s.take (k + 1)).all isLet = true := by
  rw [List.take_succ_eq_append_getElem hk, List.all_append, h]
  simp [hc]
theorem nm_bad {s : Str} {k : Nat} (hk : k < s.length) (hc : isLet s[k] = false) : nmOk s = false := by
  have : s.all isLet = false := by
    rw [List.all_eq_false]
    exact ⟨s[k], List.getElem_mem hk, by simp [hc]⟩
  simp [nmOk, this]
theorem nm_end {s : Str} (h : s.all isLet = true) : nmOk s = (decide (1 ≤ s.length) && decide (s.length ≤ 24)) := by simp [nmOk, h]
theorem index_strB (s : Str) (k : Nat) (hk : k < s.length) (w : World) : (Instr.index 9 (.string ⟨s.toArray⟩) (.int .i64 (k : Int))).run Tryz.prog w = .ok (.int .u8 (bv s[k])) w := by
  have h0 : (⟨s.toArray⟩ : ByteArray)[k]? = some s[k] := by
    have hs : k < (⟨s.toArray⟩ : ByteArray).size := by simpa [ByteArray.size] using hk
    rw [getElem?_pos (⟨s.toArray⟩ : ByteArray) k hs]
    rfl
  simp [Instr.index, asIntOf, run_underlying Tryz.underlying9, h0, bv]
theorem strLn (s : Str) : (⟨s.toArray⟩ : ByteArray).size = s.length := by simp [ByteArray.size]
theorem ret_b {a b : Bool} (h : a = b) : Ending.returned (.bool a) = .returned (.bool b) := by rw [h]
end Go.Proofs.YtamdhaoglapnnaaGreatDoor
end

section
/- The walk of commit.Name. -/
namespace Go.Proofs.YtamdhaoglapnnaaGreatDoor
open Go.RowKit

def letters : List UInt8 := [65, 66, 67, 68, 69, 70, 71, 72, 73, 74, 75, 76, 77, 78, 79, 80, 81, 82, 83, 84, 85, 86, 87, 88, 89, 90, 97, 98, 99, 100, 101, 102, 103, 104, 105, 106, 107, 108, 109, 110, 111, 112, 113, 114, 115, 116, 117, 118, 119, 120, 121, 122, 48, 49, 50, 51, 52, 53, 54, 55, 56, 57, 45, 95, 46, 35, 64, 126]
theorem letIx_all : ∀ n : Fin 256, decide (Lib.indexByte letters (UInt8.ofNat n.1) < 0) = !isLet (UInt8.ofNat n.1) := by decide +kernel
theorem letIx (c : UInt8) : decide (Lib.indexByte letters c < 0) = !isLet c := by
  have := letIx_all ⟨c.toNat, c.toNat_lt⟩
  simpa using this
theorem ixb_any (c : UInt8) (w : World) : Calls Tryz.prog 50 #[.string ⟨letters.toArray⟩, .int .u8 (bv c)] w fun e w' => e = .returned (.int .i64 (Lib.indexByte letters c)) ∧ w = w' := by
  have h := Tryz.strings_IndexByte ⟨letters.toArray⟩ (bv c) w
  have e : (bv c).toNat.toUInt8 = c := by unfold bv; simp
  rw [e] at h
  exact h.mono fun e w' ⟨h1, h2⟩ => ⟨h1, h2.symm⟩
set_option maxRecDepth 100000 in
set_option maxHeartbeats 4000000 in
theorem nm_any (s : Str) (w : World) (hs : s.length ≤ 140737488355328) :
    Calls Tryz.prog 54 #[strV s] w fun e w' => e = .returned (.bool (nmOk s)) ∧ w = w' := by
  unfold strV
  have hsl := strLn s
  go_enter Tryz.func54, Tryz.ntmps54
  go_wp2
  go_loopw [6] (fun i wr => ∃ k : Nat, k ≤ s.length ∧ i = .int .i64 k ∧ Hid ((s.take k).all isLet = true) ∧ Hid (w = wr)) (fun i _ => s.length - (intOf i).toNat)
  case atStart => exact ⟨0, Nat.zero_le _, rfl, Lib.hid (by simp), Lib.hid rfl⟩
  case round =>
    obtain ⟨k, hk, rfl, ha, hw⟩ := hrel
    by_cases hlt : k < s.length
    · have hidx := index_strB s k hlt
      have hix := letIx s[k]
      have hc := ixb_any s[k]
      obtain ⟨x, hx⟩ : ∃ x, x = bv s[k] := ⟨_, rfl⟩
      obtain ⟨y, hy⟩ : ∃ y, y = Lib.indexByte letters s[k] := ⟨_, rfl⟩
      rw [← hx] at hidx hc
      rw [← hy] at hix hc
      clear hx hy
      replace hc := Lib.hid hc
      cases hL : isLet s[k] with
      | true =>
        rw [hL] at hix
        have d1 : decide (y < 0) = false := hix
        have hnext := Lib.hid (all_take_succ hlt ha.out hL)
        clear hL hix
        go_wp2_with ((go_at_call 50; refine (hc.out _).mono ?_; rintro e w' ⟨rfl, rfl⟩))
        go_roundw
        case rel => exact ⟨k + 1, by omega, by go_num, hnext, hw⟩
        case measure => simp [intOf]; omega
      | false =>
        rw [hL] at hix
        have d1 : decide (y < 0) = true := hix
        have hbad := Lib.hid (nm_bad hlt hL)
        clear hL hix
        go_wp2_with ((go_at_call 50; refine (hc.out _).mono ?_; rintro e w' ⟨rfl, rfl⟩))
        go_ret
        exact ⟨ret_b hbad.out.symm, hw.out⟩
    · obtain rfl : k = s.length := by omega
      have hall : Hid (s.all isLet = true) := Lib.hid (by have := ha.out; rwa [List.take_length] at this)
      have he := Lib.hid (nm_end hall.out)
      by_cases h1 : 1 ≤ s.length
      · have d1 : decide (1 ≤ (s.length : Int)) = true := decide_eq_true (by omega)
        have e1 : Hid (nmOk s = decide ((s.length : Int) ≤ 24)) := Lib.hid (by rw [he.out, decide_eq_true h1, Bool.true_and]; simp; omega)
        go_wp2
        go_ret
        exact ⟨ret_b e1.out.symm, hw.out⟩
      · have d1 : decide (1 ≤ (s.length : Int)) = false := decide_eq_false (by omega)
        have e1 : Hid (nmOk s = false) := Lib.hid (by rw [he.out, decide_eq_false h1]; rfl)
        go_wp2
        go_ret
        exact ⟨ret_b e1.out.symm, hw.out⟩
end Go.Proofs.YtamdhaoglapnnaaGreatDoor
end

section
/- The walks of a Builder's WriteString. -/
namespace Go.Proofs.YtamdhaoglapnnaaGreatDoor
open Go.RowKit

/-- The builder in block b, of the call's own from B on, holds s. -/
def BIs (B b : Nat) (s : Str) (w : World) : Prop := Lib.IsBuilder 51 5 B b (Lib.byteCells s) w
def BAt (B b : Nat) (s : Str) (w : World) : Prop := Lib.BuilderAt 51 5 B b (.pointer (some ⟨b, 0, none⟩)) (Lib.byteCells s) w
theorem sizeBld : (Tryz.prog.info? 51).map (·.size) = some 2 := by kernel_rfl
set_option maxRecDepth 100000 in
set_option maxHeartbeats 1000000 in
theorem cc_used (b : Nat) (w : World) (h0 : w.cell? ⟨b, 0, none⟩ = some (.pointer (some ⟨b, 0, none⟩))) :
    Calls Tryz.prog 35 #[.pointer (some ⟨b, 0, none⟩)] w fun e w' => e = .returned (.tuple #[]) ∧ w = w' := by
  obtain ⟨j, hj, _⟩ := Option.map_eq_some_iff.1 sizeBld
  have hq := Lib.run_neq_ptr_same (P := Tryz.prog) w ⟨b, 0, none⟩ Tryz.underlying48 hj
  go_enter Tryz.func35, Tryz.ntmps35
  go_wp2
  go_end0
  exact ⟨rfl, rfl⟩
set_option maxRecDepth 100000 in
set_option maxHeartbeats 1000000 in
theorem cc_fresh (b : Nat) (w : World) (h0 : w.cell? ⟨b, 0, none⟩ = some (.pointer none)) (hsh : w.shape? b = some (51, 2)) (hfz : w.frozen? ⟨b, 0, none⟩ = false) :
    Calls Tryz.prog 35 #[.pointer (some ⟨b, 0, none⟩)] w fun e w' => e = .returned (.tuple #[]) ∧ w' = w.setCell ⟨b, 0, none⟩ (.pointer (some ⟨b, 0, none⟩)) := by
  obtain ⟨j, hj, hjs⟩ := Option.map_eq_some_iff.1 sizeBld
  have c1 := Lib.run_to_unsafe (P := Tryz.prog) w ⟨b, 0, none⟩ Tryz.underlying48 Tryz.underlying112 hj (by rw [hjs]; decide) hsh (Nat.zero_lt_succ 1)
  have c2 := Lib.run_from_unsafe (P := Tryz.prog) w ⟨b, 0, none⟩ Tryz.underlying112 Tryz.underlying48 hj hsh (by kernel_rfl)
  go_enter Tryz.func35, Tryz.ntmps35
  go_wp2
  rw [run_callFunc_extern Tryz.func62 (by kernel_rfl) (by kernel_rfl) (by kernel_rfl) (e := Extern.AbiNoEscape.same) (by kernel_rfl)]
  rw [Lib.run_noEscape]
  simp only [Result.andThen]
  rw [Oper.upon_value]
  go_wp2
  go_end0
  exact ⟨rfl, rfl⟩
/-- Blocks of other kinds than a builder's stay. -/
structure KeepTag (w w' : World) : Prop where
  blk : ∀ g t cs, Blk w g t cs → t ≠ 51 → t ≠ 5 → Blk w' g t cs
  other : ∀ (k : Nat) (o : Obj), w.heap[k]? = some o → o.isCells = false → w'.heap[k]? = some o
theorem KeepTag.refl (w : World) : KeepTag w w := ⟨fun _ _ _ h _ _ => h, fun _ _ h _ => h⟩
theorem KeepTag.trans {w w1 w2 : World} (h : KeepTag w w1) (h' : KeepTag w1 w2) : KeepTag w w2 := ⟨fun _ _ _ hb h1 h2 => h'.blk _ _ _ (h.blk _ _ _ hb h1 h2) h1 h2, fun _ _ ho hc => h'.other _ _ (h.other _ _ ho hc) hc⟩
theorem KeepTag.below {w w' : World} (h : Below w.heap.size w w') : KeepTag w w' := ⟨fun _ _ _ hb _ _ => hb.below h hb.lt, fun k _ ho _ => (h.block k (Array.getElem?_eq_some_iff.1 ho).1).trans ho⟩
theorem KeepTag.set_ {w : World} {b i : Nat} {cs : Array Value} (hb : w.heap[b]? = some (.cells cs 51 (0, 0))) (u : Value) : KeepTag w (w.setCell ⟨b, i, none⟩ u) := ⟨fun g _ _ hB h1 _ =>
  hB.far (p := ⟨b, i, none⟩) (fun e => by
    have e' : g = b := e
    subst e'
    unfold Blk at hB
    rw [hb] at hB
    injection hB with hB
    injection hB with _ ht
    exact h1 ht.symm) u, (KeepsOthers.setCell w _ u).same⟩
theorem KeepTag.grown {w w' : World} {B : Nat} {v : Value} {n : Nat} {xs : List Value} (ho : w.ownsRow B 5 1 v n xs) (h : w.grownBy w' v.ownBlock) : KeepTag w w' := ⟨fun g _ _ hB _ h2 =>
  hB.grown h (fun e => by
    rcases ho.2 with ⟨rfl, _⟩ | ⟨g', cap, cur, rfl, _, hg, _⟩
    · cases e
    · have e' : g = g' := by simpa [Value.ownBlock] using e
      subst e'
      unfold Blk at hB
      rw [hg] at hB
      injection hB with hB
      injection hB with _ ht
      exact h2 ht.symm), (KeepsOthers.of_grownBy h (fun j o e hj => by
    rcases ho.2 with ⟨rfl, _⟩ | ⟨g', cap, cur, rfl, _, hg, _⟩
    · cases e
    · have e' : g' = j := by simpa [Value.ownBlock] using e
      subst e'
      rw [hg] at hj
      cases hj
      rfl)).same⟩
theorem cc_any (B b : Nat) (s : Str) (w : World) (h : BIs B b s w) :
    Calls Tryz.prog 35 #[.pointer (some ⟨b, 0, none⟩)] w fun e w' => e = .returned (.tuple #[]) ∧ BAt B b s w' ∧ Below B w w' ∧ KeepTag w w' := by
  rcases h with h | h
  · refine (cc_fresh b w h.cell0 h.shape h.frozen0).mono ?_
    rintro e w' ⟨rfl, rfl⟩
    refine ⟨rfl, h.used _, (Below.refl B w).setCell (p := ⟨b, 0, none⟩) h.1 _, ?_⟩
    obtain ⟨_, v, hbk, _⟩ := h
    exact KeepTag.set_ hbk _
  · refine (cc_used b w h.cell0).mono ?_
    rintro e w' ⟨rfl, rfl⟩
    exact ⟨rfl, h, Below.refl B _, KeepTag.refl _⟩
theorem info8t : ∃ i, Tryz.prog.info? 5 = some i ∧ i.zero = some (.int .u8 0) ∧ i.size = 1 ∧ i.bytes = 1 := by
  have h := info8.info
  cases hq : Tryz.prog.info? 5 with
  | none => simp [hq] at h
  | some i =>
    simp only [hq, Option.map_some, Option.some.injEq, Prod.mk.injEq] at h
    exact ⟨i, rfl, h.1, h.2.1, h.2.2⟩
theorem byteC_len (s : Str) : (Lib.byteCells s).length = s.length := by simp [Lib.byteCells]
theorem byteC_app (s t : Str) : Lib.byteCells (s ++ t) = Lib.byteCells s ++ Lib.strCells ⟨t.toArray⟩ := by simp [Lib.byteCells, Lib.strCells]
set_option maxRecDepth 100000 in
set_option maxHeartbeats 2000000 in
theorem ws_any (B b : Nat) (s t : Str) (w : World) (h : BIs B b s w) (hl : s.length + t.length ≤ 140737488355328) (hBw : B ≤ w.heap.size) :
    Calls Tryz.prog 23 #[.pointer (some ⟨b, 0, none⟩), .string ⟨t.toArray⟩] w fun e w' => e = .returned (.tuple #[.int .i64 t.length, .nilIface]) ∧ BIs B b (s ++ t) w' ∧ Below B w w' ∧ KeepTag w w' := by
  obtain ⟨i0, hi, hz0, hz1, hz2⟩ := info8t
  have hcc := Lib.hid (cc_any B b s w h)
  have htl : (⟨t.toArray⟩ : ByteArray).size = t.length := by simp [ByteArray.size]
  have hcl := Lib.hid (byteC_len s)
  have happ := Lib.hid (byteC_app s t)
  replace hi := Lib.hid hi
  replace hz0 := Lib.hid hz0
  replace hz1 := Lib.hid hz1
  replace hz2 := Lib.hid hz2
  clear h
  go_enter Tryz.func23, Tryz.ntmps23
  go_wp2_with fail
  refine hcc.out.mono ?_
  rintro e w1 ⟨rfl, h1, hb1, hk1⟩
  replace hk1 := Lib.hid hk1
  obtain ⟨hB, v, hbk, hown, hne⟩ := h1
  have c0 : w1.cell? ⟨b, 0, none⟩ = some (.pointer (some ⟨b, 0, none⟩)) := by rw [Lib.cell_of_heap hbk]; rfl
  have c1 : w1.cell? ⟨b, 1, none⟩ = some v := by rw [Lib.cell_of_heap hbk]; rfl
  have hs1 := hb1.size
  replace hown := Lib.hid hown
  replace hbk := Lib.hid hbk
  replace hne := Lib.hid hne
  replace hb1 := Lib.hid hb1
  go_wp2_with (at_builtin; refine Lib.wpList_append_own_string _ rfl _ _ 49 9 rfl B 5 i0 Tryz.underlying49 Tryz.underlying9 hi.out hz0.out hz1.out hz2.out _ _ _ rfl hown.out ⟨t.toArray⟩ rfl ?c3 ?c4 ?c5 ?_)
  case c3 => rw [hcl.out, htl]; unfold maxLen; omega
  case c4 => rw [hcl.out, htl]; omega
  case c5 => omega
  intro v' w2 hown' hgrow _
  have hlt : b < w1.heap.size := by
    rcases Nat.lt_or_ge b w1.heap.size with h' | h'
    · exact h'
    · have := hbk.out; simp [Array.getElem?_eq_none h'] at this
  have hb2 : w2.heap[b]? = some (.cells #[.pointer (some ⟨b, 0, none⟩), v] 51 (0, 0)) := by
    rw [hgrow.block b hlt (fun e => hne.out e.symm)]
    exact hbk.out
  have d0 : w2.cell? ⟨b, 0, none⟩ = some (.pointer (some ⟨b, 0, none⟩)) := by rw [Lib.cell_of_heap hb2]; rfl
  have d1 : w2.cell? ⟨b, 1, none⟩ = some v := by rw [Lib.cell_of_heap hb2]; rfl
  have f1 : w2.frozen? ⟨b, 1, none⟩ = false := Lib.frozen_of_heap hb2 1
  obtain ⟨ao, n', cap, rfl⟩ : ∃ ao n' cap, v' = .slice ao n' cap := by
    rcases hown'.2 with ⟨hv, _⟩ | ⟨g, cap, cur, hv, _⟩
    · exact ⟨_, _, _, hv⟩
    · exact ⟨_, _, _, hv⟩
  replace hown' := Lib.hid hown'
  replace hgrow := Lib.hid hgrow
  replace hb2 := Lib.hid hb2
  go_wp2
  go_ret2
  refine ⟨by rw [← htl]; rfl, .inr ?_, ?_, (hk1.out.trans (KeepTag.grown hown.out hgrow.out)).trans (KeepTag.set_ hb2.out _)⟩
  · rw [happ.out]
    exact Lib.BuilderAt.put (T := 51) (e := 5) hB hb2.out (bs' := Lib.byteCells s ++ Lib.strCells ⟨t.toArray⟩) (by rw [List.length_append, Lib.strCells_length, htl]; exact hown'.out) (by decide)
  · exact (hb1.out.grown hgrow.out (Nat.le_trans hBw hs1) (fun k hk => (hown.out.lt k hk).1)).setCell (p := ⟨b, 1, none⟩) hB _
end Go.Proofs.YtamdhaoglapnnaaGreatDoor
end

section
/- The walk of refs.May. -/
namespace Go.Proofs.YtamdhaoglapnnaaGreatDoor
open Go.RowKit

def prevN (T : Tab) : Nat → Option Str
  | 0 => none
  | k + 1 => (T[k]?).map (·.name)
theorem prevN_succ (T : Tab) (k : Nat) (hk : k < T.length) : prevN T (k + 1) = some T[k].name := by simp [prevN, hk]
theorem mayF_at (T : Tab) (k : Nat) (hk : k < T.length) : mayF (prevN T k) (T.drop k) =
    if nmOk T[k].name then (if preOk (prevN T k) T[k].name then (if T[k].heads = [] then 5 else if headsE T[k].heads = 0 then mayF (prevN T (k + 1)) (T.drop (k + 1)) else headsE T[k].heads) else 7) else 11 := by
  rw [prevN_succ T k hk]
  conv => lhs; rw [List.drop_eq_getElem_cons hk]
  rfl
theorem mayF_end (p : Option Str) : mayF p [] = 0 := by cases p <;> rfl
def zeroBr : List Value := [.string ⟨#[]⟩, .slice none 0 0]
/-- A box that has been made and written. -/
theorem boxed (w : World) (T : TypeId) (z cs : List Value) : Blk ((w.alloc (.cells z.toArray T)).setRow w.heap.size cs.toArray) w.heap.size T cs ∧ Below w.heap.size w ((w.alloc (.cells z.toArray T)).setRow w.heap.size cs.toArray) :=
  ⟨(Blk.new_at (cs := z) rfl).setRow_same cs, below_setRow ((Below.refl _ _).alloc (Nat.le_refl _) _) (Nat.le_refl _) _⟩
theorem toL (a : Str) : (⟨a.toArray⟩ : ByteArray).toList = a := by rw [Lib.toList_data]
attribute [local go_sem] toL
theorem ret_m {a b : Int} (h : a = b) : Ending.returned (.int .i64 a) = .returned (.int .i64 b) := by rw [h]
set_option maxRecDepth 100000 in
set_option maxHeartbeats 4000000 in
theorem may_any (T : Tab) (v : Value) (ok : Nat → Prop) (w : World) (h : TabIs w ok v T) (hf : TFit T) :
    Calls Tryz.prog 214 #[v] w fun e w' => e = .returned (.int .i64 (mayE T)) ∧ Below w.heap.size w w' := by
  obtain ⟨A, c, rfl, hc⟩ := h.form
  have hlen : T.length ≤ 3518437208832 := hf.len
  have hok := Lib.hid hf.ok
  replace h := Lib.hid h
  clear hc hf
  by_cases h32 : 32 < T.length
  · have he : Hid (mayE T = 4) := Lib.hid (by unfold mayE; rw [if_pos h32])
    go_enter Tryz.func214, Tryz.ntmps214
    go_wp2
    go_ret
    exact ⟨ret_m he.out.symm, Below.refl _ _⟩
  · have h32' : T.length ≤ 32 := by omega
    have he : Hid (mayE T = mayF none T) := Lib.hid (by unfold mayE; rw [if_neg h32])
    clear h32
    go_enter Tryz.func214, Tryz.ntmps214
    go_wp2
    go_loopw [11] (fun i wr => ∃ k : Nat, k ≤ T.length ∧ i = .int .i64 k ∧ Hid (mayF none T = mayF (prevN T k) (T.drop k)) ∧ Below w.heap.size w wr) (fun i _ => T.length - (intOf i).toNat)
    case atStart => exact ⟨0, Nat.zero_le _, rfl, Lib.hid rfl, Below.refl _ _⟩
    case round =>
      obtain ⟨k, hk, rfl, hm, hb⟩ := hrel
      by_cases hlt : k < T.length
      · have hw0 := h.out.stayB hb
        obtain ⟨b, o, u, rfl, _, hbl, hU, c0, c1⟩ := hw0.br k hlt
        have hat := mayF_at T k hlt
        rw [← hm.out] at hat
        have hbf := hok.out T[k] (List.getElem_mem hlt)
        obtain ⟨n, hn⟩ : ∃ n, n = T[k].name := ⟨_, rfl⟩
        obtain ⟨hs, hhs⟩ : ∃ hs, hs = T[k].heads := ⟨_, rfl⟩
        have hnl : n.length ≤ 140737488355328 := by rw [hn]; exact hbf.name
        have hhf : HFit hs := by rw [hhs]; exact hbf.heads
        rw [← hn, ← hhs] at hat
        rw [← hn] at c0
        rw [← hhs] at hU
        obtain ⟨UA, uc, rfl, huc, _⟩ := id hU
        have hhl : hs.length ≤ 4398046511104 := hhf.len
        have hcells := Lib.hid (two_cells c0 c1)
        obtain ⟨hB1, hb1⟩ := boxed wr 138 zeroBr [strV n, .slice UA hs.length uc]
        obtain ⟨W1, hW1⟩ : ∃ W1, W1 = (wr.alloc (.cells zeroBr.toArray 138)).setRow wr.heap.size [strV n, .slice UA hs.length uc].toArray := ⟨_, rfl⟩
        rw [← hW1] at hB1 hb1
        replace hW1 := Lib.hid hW1
        have hone : Hid (∀ v ∈ [strV n, Value.slice UA hs.length uc], v.oneCell' = true) := Lib.hid (by simp [strV, Value.oneCell'])
        have hnm := Lib.hid (nm_any n W1 hnl)
        have hU1 := hU.stayB hb1
        have hbW := hb.trans (hb1.mono hb.size)
        replace hat := Lib.hid hat
        have hbs := hb1.size
        have hgl : wr.heap.size < W1.heap.size := hB1.lt
        have d0 : W1.cell? ⟨wr.heap.size, 0, none⟩ = some (.string ⟨n.toArray⟩) := by rw [hB1.cell]; rfl
        have d1 : W1.cell? ⟨wr.heap.size, 1, none⟩ = some (.slice UA hs.length uc) := by rw [hB1.cell]; rfl
        have i1 : (0 : Int) ≤ (k : Int) := by omega
        have i2 : (k : Int) < (T.length : Int) := by omega
        have hp : Hid (0 < k → ∃ p, preOk (prevN T k) n = lessS p n ∧ W1.cell? ⟨b, o + (k - 1) * 2, none⟩ = some (.string ⟨p.toArray⟩)) := Lib.hid (fun h0 => by
          obtain ⟨b', o', u', e', _, hbl', _, c0', _⟩ := hw0.br (k - 1) (by omega)
          cases e'
          refine ⟨T[k - 1].name, ?_, ?_⟩
          · obtain ⟨j, rfl⟩ : ∃ j, k = j + 1 := ⟨k - 1, by omega⟩
            rw [prevN_succ T j (by omega)]
            rfl
          · rw [hb1.cell (p := ⟨b, _, none⟩) hbl']; exact c0')
        clear hn hhs hbf hw0 c0 c1 hm hU
        cases hno : nmOk n with
        | false =>
          rw [hno] at hnm hat
          have hfin : Hid (mayE T = 11) := Lib.hid (by rw [he.out, hat.out]; rfl)
          clear hno hat
          go_wp2_with (first
            | (refine wpList_load_at 138 (.tmp 14) rfl rfl b (o + k * 2) rfl [strV n, .slice UA hs.length uc] hcells.out _ Tryz.underlying138 rfl brSz ?_; go_frame)
            | (refine wpList_store_blk rfl 138 (.tmp 4) (.tmp 15) rfl wr.heap.size [strV n, .slice UA hs.length uc] rfl rfl 138 zeroBr (Blk.new_at rfl) rfl brSz hone.out ?_; rw [show (wr.alloc (Obj.cells #[Value.string ⟨#[]⟩, Value.slice none 0 0] 138)).setRow wr.heap.size [strV n, .slice UA hs.length uc].toArray = W1 from hW1.out.symm]; go_frame)
            | (go_at_call 54; refine hnm.out.mono ?_; rintro e w' ⟨rfl, rfl⟩))
          go_ret
          exact ⟨ret_m hfin.out.symm, hbW⟩
        | true =>
          rw [hno] at hnm hat
          replace hat : Hid (mayF none T = if preOk (prevN T k) n then (if hs = [] then 5 else if headsE hs = 0 then mayF (prevN T (k + 1)) (T.drop (k + 1)) else headsE hs) else 7) := Lib.hid (by rw [hat.out, if_pos rfl])
          clear hno
          go_wp2_with (first
            | (refine wpList_load_at 138 (.tmp 14) rfl rfl b (o + k * 2) rfl [strV n, .slice UA hs.length uc] hcells.out _ Tryz.underlying138 rfl brSz ?_; go_frame)
            | (refine wpList_store_blk rfl 138 (.tmp 4) (.tmp 15) rfl wr.heap.size [strV n, .slice UA hs.length uc] rfl rfl 138 zeroBr (Blk.new_at rfl) rfl brSz hone.out ?_; rw [show (wr.alloc (Obj.cells #[Value.string ⟨#[]⟩, Value.slice none 0 0] 138)).setRow wr.heap.size [strV n, .slice UA hs.length uc].toArray = W1 from hW1.out.symm]; go_frame)
            | (go_at_call 54; refine hnm.out.mono ?_; rintro e w' ⟨rfl, rfl⟩))
          rcases Nat.eq_zero_or_pos k with hk0 | hk1
          focus
            subst hk0
            have g0 : decide (0 < ((0 : Nat) : Int)) = false := by simp
            replace hat : Hid (mayF none T = if hs = [] then 5 else if headsE hs = 0 then mayF (prevN T (0 + 1)) (T.drop (0 + 1)) else headsE hs) := Lib.hid (by rw [hat.out]; rfl)
            go_quiet (fail)
          rotate_left
          focus
            have g0 : decide (0 < (k : Int)) = true := by simpa using hk1
            obtain ⟨p, hpo, cp⟩ := hp.out hk1
            obtain ⟨t, ht⟩ : ∃ t, t = lessS p n := ⟨_, rfl⟩
            have htl : Op.bytesLess p n = t := ht.symm
            rw [hpo, ← ht] at hat
            clear hpo ht
            have e1 : IntKind.i64.wrap ((k : Int) - 1) = (k : Int) - 1 := IntWalk.i64_in _ (by omega)
            have e2 : (0 : Int) ≤ (k : Int) - 1 := by omega
            have e3 : (k : Int) - 1 < (T.length : Int) := by omega
            have e4 : ((k : Int) - 1).toNat = k - 1 := by omega
            go_quiet (fail)
            cases t
            · have hfin : Hid (mayE T = 7) := Lib.hid (by rw [he.out, hat.out]; rfl)
              clear hat
              go_wp2
              go_ret
              exact ⟨ret_m hfin.out.symm, below_drewN hbW nq⟩
            replace hat : Hid (mayF none T = if hs = [] then 5 else if headsE hs = 0 then mayF (prevN T (k + 1)) (T.drop (k + 1)) else headsE hs) := Lib.hid (by rw [hat.out, if_pos rfl])
            clear e1 e2 e3 e4 htl cp
          all_goals
            have hB2 : Blk (W1.drewN nq) wr.heap.size 138 [strV n, .slice UA hs.length uc] := hB1.drewN nq
            have hb2 : Below w.heap.size w (W1.drewN nq) := below_drewN hbW nq
            have hU2 : HdIs (W1.drewN nq) ok (.slice UA hs.length uc) hs := hU1
            replace hU2 := Lib.hid hU2
            clear hU1 hB1 hb1 hbW d0 d1 hW1 hp hnm hbs hgl g0
            generalize W1.drewN nq = W2 at hB2 hb2 hU2 ⊢
            have d1 : W2.cell? ⟨wr.heap.size, 1, none⟩ = some (.slice UA hs.length uc) := by rw [hB2.cell]; rfl
            clear hB2
            by_cases h0 : hs.length = 0
            · have g1 : ((hs.length : Int) == 0) = true := by simp [h0]
              have hfin : Hid (mayE T = 5) := Lib.hid (by rw [he.out, hat.out, if_pos (List.eq_nil_of_length_eq_zero h0)])
              clear hat h0
              go_wp2
              go_ret
              exact ⟨ret_m hfin.out.symm, hb2⟩
            · have g1 : ((hs.length : Int) == 0) = false := by rw [beq_eq_false_iff_ne]; omega
              have hne : hs ≠ [] := fun e => h0 (by rw [e]; rfl)
              have hat2 := hat.out
              rw [if_neg hne] at hat2
              have hcall := Lib.hid (heads_any hs _ ok W2 hU2.out hhf)
              obtain ⟨x, hx⟩ : ∃ x, x = headsE hs := ⟨_, rfl⟩
              rw [← hx] at hat2 hcall
              clear hat h0 hne hx
              by_cases hx0 : x = 0
              · subst hx0
                have hnext := Lib.hid (hat2.trans (if_pos rfl))
                clear hat2
                go_wp2_with ((go_at_call 285; refine hcall.out.mono ?_; rintro e w3 ⟨rfl, hb3⟩))
                go_roundw
                case rel => first | exact ⟨k + 1, by omega, by go_num, hnext, hb2.trans (hb3.mono hb2.size)⟩ | exact ⟨0 + 1, by omega, by go_num, hnext, hb2.trans (hb3.mono hb2.size)⟩
                case measure => simp [intOf]; omega
              · have g2 : (x != 0) = true := by simpa using hx0
                have hfin : Hid (mayE T = x) := Lib.hid (by rw [he.out, hat2, if_neg hx0])
                clear hat2 hx0
                go_wp2_with ((go_at_call 285; refine hcall.out.mono ?_; rintro e w3 ⟨rfl, hb3⟩))
                go_ret
                exact ⟨ret_m hfin.out.symm, hb2.trans (hb3.mono hb2.size)⟩
      · obtain rfl : k = T.length := by omega
        have hf : Hid (mayE T = 0) := Lib.hid (by rw [he.out, hm.out, List.drop_length, mayF_end])
        go_wp2
        go_ret
        exact ⟨ret_m hf.out.symm, hb⟩
end Go.Proofs.YtamdhaoglapnnaaGreatDoor
end

section
/- Joined: RfC, RfD. -/
section
/- The walk of refs.Print. -/
namespace Go.Proofs.YtamdhaoglapnnaaGreatDoor
open Go.RowKit

theorem lineH_snoc (l : List Str) (d : Str) : lineH (l ++ [d]) = lineH l ++ (32 :: hexOf d) := by simp [lineH]
theorem lineH_len : ∀ {l : List Str}, hOk l → (lineH l).length = l.length * 65
  | [], _ => rfl
  | d :: l, h => by
    have ih := lineH_len (l := l) (fun x hx => h x (by simp [hx]))
    have hd : (hexOf d).length = 64 := by rw [hexOf_length, h d (by simp)]
    show ((32 :: hexOf d) ++ lineH l).length = _
    rw [List.length_append, ih, List.length_cons, hd, List.length_cons]
    omega
theorem printS_snoc (T : Tab) (b : Br) : printS (T ++ [b]) = printS T ++ lineS b := by simp [printS]
theorem lineS_len {b : Br} (hb : bOk b) (ho : hOk b.heads) : (lineS b).length ≤ 545 := by
  obtain ⟨h1, _, h3⟩ := hb
  have h4 : b.name.length ≤ 24 := by
    simp only [nmOk, Bool.and_eq_true, decide_eq_true_eq] at h1
    exact h1.2
  have h5 : b.heads.length ≤ 8 := by
    unfold headsE at h3
    split at h3
    · cases h3
    · omega
  unfold lineS
  rw [List.length_append, List.length_append, lineH_len ho]
  simp
  omega
theorem printS_len : ∀ {T : Tab}, (∀ b ∈ T, bOk b) → tOk T → (printS T).length ≤ T.length * 545
  | [], _, _ => by simp [printS]
  | b :: T, h, ho => by
    have ih := printS_len (T := T) (fun x hx => h x (by simp [hx])) (fun x hx => ho x (by simp [hx]))
    have hb := lineS_len (h b (by simp)) (ho b (by simp))
    show (lineS b ++ printS T).length ≤ _
    rw [List.length_append, List.length_cons]
    omega
end Go.Proofs.YtamdhaoglapnnaaGreatDoor
end

section
/- The walk of refs.Print. -/
namespace Go.Proofs.YtamdhaoglapnnaaGreatDoor
open Go.RowKit

def printT (T : Tab) : Str := if mayE T = 0 then printS T else []
theorem take_at {α : Type} {l : List α} {k : Nat} (h : k < l.length) : l.take (k + 1) = l.take k ++ [l[k]] := List.take_succ_eq_append_getElem h
theorem bis_below {B b : Nat} {s : Str} {w w' : World} (h : BIs B b s w) (hb : Below w.heap.size w w') : BIs B b s w' := by
  have key : ∀ p, Lib.BuilderAt 51 5 B b p (Lib.byteCells s) w → Lib.BuilderAt 51 5 B b p (Lib.byteCells s) w' := by
    rintro p ⟨hB, v, hbk, hown, hne⟩
    have hlt : b < w.heap.size := (Array.getElem?_eq_some_iff.1 hbk).1
    exact ⟨hB, v, (hb.block b hlt).trans hbk, own_touch (L := []) hown (Touch.ofBelow hb) (by simp), hne⟩
  rcases h with h | h
  · exact .inl (key _ h)
  · exact .inr (key _ h)
theorem str_add (a b : Str) : ((⟨a.toArray⟩ : ByteArray) ++ ⟨b.toArray⟩) = ⟨(a ++ b).toArray⟩ := by
  apply ByteArray.ext
  simp
set_option maxRecDepth 100000 in
set_option maxHeartbeats 4000000 in
theorem print_any (T : Tab) (v : Value) (ok : Nat → Prop) (w : World) (h : TabIs w ok v T) (hf : TFit T) :
    Calls Tryz.prog 151 #[v] w fun e w' => e = .returned (.tuple #[strV (printT T), .int .i64 (mayE T)]) ∧ Below w.heap.size w w' := by
  obtain ⟨A, c, rfl, hc⟩ := h.form
  have hmay := Lib.hid (may_any T _ ok w h hf)
  have hlen : T.length ≤ 3518437208832 := hf.len
  unfold strV
  by_cases hm : mayE T = 0
  · have hpt : Hid (printT T = printS T) := Lib.hid (by unfold printT; rw [if_pos hm])
    have hbk := Lib.hid ((mayE_zero T).1 hm)
    have hpl := printS_len hbk.out.2.1 (fun b hb => (hf.ok b hb).heads.ok)
    have hl32 : T.length ≤ 32 := hbk.out.1
    rw [hm] at hmay ⊢
    have hok := Lib.hid hf.ok
    replace h := Lib.hid h
    clear hm hf hc
    go_enter Tryz.func151, Tryz.ntmps151
    go_wp2_with fail
    refine hmay.out.mono ?_
    rintro e w1 ⟨rfl, hb1⟩
    have h1 := Lib.hid (h.out.stayB hb1).ltB
    replace hb1 := Lib.hid hb1
    clear hmay h
    go_wp2_with fail
    have hbis : BIs w1.heap.size w1.heap.size [] (w1.alloc (Obj.cells #[Value.pointer none, Value.slice none 0 0] 51)) :=
      .inl ⟨Nat.le_refl _, _, heap_alloc_new w1 _, World.ownsRow_nil _ _ _ _, by simp [Value.ownBlock]⟩
    go_loopw [17] (fun i wr => ∃ k : Nat, k ≤ T.length ∧ i = .int .i64 k ∧ BIs w1.heap.size w1.heap.size (printS (T.take k)) wr ∧ Below w1.heap.size w1 wr) (fun i _ => T.length - (intOf i).toNat)
    case atStart => exact ⟨0, Nat.zero_le _, rfl, hbis, (Below.refl _ _).alloc (Nat.le_refl _) _⟩
    case round =>
      clear hbis
      obtain ⟨k, hk, rfl, hB, hb⟩ := hrel
      by_cases hlt : k < T.length
      · have hw0 := h1.out.low hb
        obtain ⟨b, o, u, rfl, _, hbl, hU, c0, c1⟩ := hw0.br k hlt
        have hbf := hok.out T[k] (List.getElem_mem hlt)
        have hbo := hbk.out.2.1 T[k] (List.getElem_mem hlt)
        have hpre := printS_len (T := T.take k) (fun x hx => hbk.out.2.1 x (List.mem_of_mem_take hx)) (fun x hx => (hok.out x (List.mem_of_mem_take hx)).heads.ok)
        have hline := lineS_len hbo hbf.heads.ok
        have hsucc : Hid (printS (T.take (k + 1)) = printS (T.take k) ++ (T[k].name ++ lineH T[k].heads ++ [10])) := Lib.hid (by rw [take_at hlt, printS_snoc]; rfl)
        unfold lineS at hline
        obtain ⟨n, hn⟩ : ∃ n, n = T[k].name := ⟨_, rfl⟩
        obtain ⟨hs, hhs⟩ : ∃ hs, hs = T[k].heads := ⟨_, rfl⟩
        obtain ⟨pre, hpr⟩ : ∃ pre, pre = printS (T.take k) := ⟨_, rfl⟩
        have hho : hOk hs := by rw [hhs]; exact hbf.heads.ok
        have hhl : hs.length ≤ 4398046511104 := by rw [hhs]; exact hbf.heads.len
        rw [← hn, ← hhs] at hsucc hline
        rw [← hpr] at hsucc hpre hB
        rw [← hn] at c0
        rw [← hhs] at hU
        clear hn hhs hpr hbf hbo
        have hpl2 : pre.length ≤ 17440 := by rw [List.length_take] at hpre; omega
        simp only [List.length_append, List.length_cons, List.length_nil] at hline
        obtain ⟨UA, uc, rfl, huc, _⟩ := id hU
        have hcells := Lib.hid (two_cells c0 c1)
        obtain ⟨hX1, hbx1⟩ := boxed wr 138 zeroBr [strV n, .slice UA hs.length uc]
        obtain ⟨W1, hW1⟩ : ∃ W1, W1 = (wr.alloc (.cells zeroBr.toArray 138)).setRow wr.heap.size [strV n, .slice UA hs.length uc].toArray := ⟨_, rfl⟩
        rw [← hW1] at hX1 hbx1
        replace hW1 := Lib.hid hW1
        have hone : Hid (∀ v ∈ [strV n, Value.slice UA hs.length uc], v.oneCell' = true) := Lib.hid (by simp [strV, Value.oneCell'])
        have hB1 := bis_below hB hbx1
        have hU1 := hU.low (hbx1.mono hb.size)
        have hbW := hb.trans (hbx1.mono hb.size)
        have d0 : W1.cell? ⟨wr.heap.size, 0, none⟩ = some (.string ⟨n.toArray⟩) := by rw [hX1.cell]; rfl
        have i1 : (0 : Int) ≤ (k : Int) := by omega
        have i2 : (k : Int) < (T.length : Int) := by omega
        have hgl := hX1.lt
        replace hho := Lib.hid hho
        have hws := Lib.hid (ws_any w1.heap.size w1.heap.size pre n W1 hB1 (by omega) hbW.size)
        replace hX1 := Lib.hid hX1
        replace hU1 := Lib.hid hU1
        replace hbW := Lib.hid hbW
        replace hpre := Lib.hid hpre
        clear hw0 c0 c1 hU hB hB1 hb hbx1
        go_wp2_with (first
          | (refine wpList_load_at 138 (.tmp 19) rfl rfl b (o + k * 2) rfl [strV n, .slice UA hs.length uc] hcells.out _ Tryz.underlying138 rfl brSz ?_; go_frame)
          | (refine wpList_store_blk rfl 138 (.tmp 7) (.tmp 20) rfl wr.heap.size [strV n, .slice UA hs.length uc] rfl rfl 138 zeroBr (Blk.new_at rfl) rfl brSz hone.out ?_; rw [show (wr.alloc (Obj.cells #[Value.string ⟨#[]⟩, Value.slice none 0 0] 138)).setRow wr.heap.size [strV n, .slice UA hs.length uc].toArray = W1 from hW1.out.symm]; go_frame))
        refine hws.out.mono ?_
        rintro e W2 ⟨rfl, hB2, hb2, hk2⟩
        have hX2 := hk2.blk _ _ _ hX1.out (by decide) (by decide)
        have hU2 := Lib.hid (hU1.out.low hb2)
        have hbW2 := Lib.hid (hbW.out.trans hb2)
        have d1 : W2.cell? ⟨wr.heap.size, 1, none⟩ = some (.slice UA hs.length uc) := by rw [hX2.cell]; rfl
        clear hX2 hb2 hk2 hX1 hU1 hbW hws hcells hone hW1 d0 hgl
        generalize wr.heap.size = g0 at d1 ⊢
        have hz := (zero_of_info zeros32).1
        have hrest : hs.length * 65 + n.length ≤ 545 := by rw [lineH_len hho.out] at hline; omega
        go_wp2_with fail
        go_loopw [27] (fun i wr => ∃ j : Nat, j ≤ hs.length ∧ i = .int .i64 j ∧ BIs w1.heap.size w1.heap.size (pre ++ n ++ lineH (hs.take j)) wr ∧ Below w1.heap.size w1 wr ∧ Below w1.heap.size W2 wr) (fun i _ => hs.length - (intOf i).toNat)
        case atStart => exact ⟨0, Nat.zero_le _, rfl, by simpa [lineH] using hB2, hbW2.out, Below.refl _ _⟩
        case round =>
          clear hB2 hbW2 d1
          obtain ⟨j, hj, rfl, hB3, hb3, hb3'⟩ := hrel
          by_cases hjl : j < hs.length
          · obtain ⟨gd, od, rfl, hgdl, _, hcd⟩ := HdIs.dig hU2.out hho.out j hjl
            have hcd3 : Hid (∀ i v, (hs[j].map B)[i]? = some v → wr.cell? ⟨gd, od + j * 32 + i, none⟩ = some v) := Lib.hid (fun i v hv => by
              rw [hb3'.cell (p := ⟨gd, _, none⟩) hgdl]; exact hcd i v hv)
            have hdl := hho.out hs[j] (List.getElem_mem hjl)
            have hsucc2 : Hid (pre ++ n ++ lineH (hs.take (j + 1)) = pre ++ n ++ lineH (hs.take j) ++ (32 :: hexOf hs[j])) := Lib.hid (by rw [take_at hjl, lineH_snoc, List.append_assoc, List.append_assoc, List.append_assoc])
            have hll : (pre ++ n ++ lineH (hs.take j)).length ≤ 20000 := by
              rw [List.length_append, List.length_append, lineH_len (fun x hx => hho.out x (List.mem_of_mem_take hx)), List.length_take]; omega
            obtain ⟨q, hq⟩ : ∃ q, q = pre ++ n ++ lineH (hs.take j) := ⟨_, rfl⟩
            rw [← hq] at hll hsucc2 hB3
            obtain ⟨d, hd⟩ : ∃ d, d = hs[j] := ⟨_, rfl⟩
            rw [← hd] at hcd3 hdl hsucc2
            clear hd hq hcd
            have hsd := Lib.hid (digSz hdl)
            have hzl : Hid (zero32.length = (d.map B).length) := Lib.hid (by rw [List.length_map, hdl]; rfl)
            obtain ⟨hX4, hbx4⟩ := boxed wr 115 zero32 (d.map B)
            obtain ⟨W4, hW4⟩ : ∃ W4, W4 = (wr.alloc (.cells zero32.toArray 115)).setRow wr.heap.size (d.map B).toArray := ⟨_, rfl⟩
            rw [← hW4] at hX4 hbx4
            replace hW4 := Lib.hid hW4
            have hB4 := Lib.hid (bis_below hB3 hbx4)
            have hb4 := hb3.trans (hbx4.mono hb3.size)
            have hb4' := hb3'.trans (hbx4.mono hb3.size)
            have hhx := Lib.hid (hex_any d hdl W4)
            have hhl : (32 :: hexOf d).length = 65 := by rw [List.length_cons, hexOf_length, hdl]
            have hadd := str_add [32] (hexOf d)
            simp only [List.cons_append, List.nil_append] at hadd
            replace hX4 := Lib.hid hX4
            have i3 : (0 : Int) ≤ (j : Int) := by omega
            have i4 : (j : Int) < (hs.length : Int) := by omega
            clear hB3 hb3 hb3' hbx4
            obtain ⟨hx, hhx2⟩ : ∃ hx, hx = hexOf d := ⟨_, rfl⟩
            rw [← hhx2] at hhx hhl hadd hsucc2
            clear hhx2
            have hsz : (⟨hx.toArray⟩ : ByteArray).size = 64 := by rw [strLn]; simpa using hhl
            go_wp2_with (first
              | (refine wpList_load_at 115 (.tmp 29) rfl rfl gd (od + j * 32) rfl (d.map B) hcd3.out _ Tryz.underlying115 rfl hsd.out ?_; go_frame)
              | (refine wpList_store_blk rfl 115 (.tmp 9) (.tmp 30) rfl wr.heap.size (d.map B) rfl rfl 115 zero32 (Blk.new_at rfl) hzl.out hsd.out (all_B _) ?_; rw [show (wr.alloc (Obj.cells zero32.toArray 115)).setRow wr.heap.size (d.map B).toArray = W4 from hW4.out.symm]; go_frame)
              | (refine wpList_load_blk rfl 115 (.tmp 9) rfl wr.heap.size rfl 115 (d.map B) hX4.out _ Tryz.underlying115 rfl hsd.out ?_; go_frame)
              | (go_at_call 65; refine hhx.out.mono ?_; rintro e W5 ⟨rfl, hb5⟩; replace hb5 := Lib.hid hb5))
            have hb5' := hb4.trans (hb5.out.mono hb4.size)
            have hB5 := bis_below hB4.out hb5.out
            refine (ws_any w1.heap.size w1.heap.size q (32 :: hx) W5 hB5 (by omega) hb5'.size).mono ?_
            rintro e W6 ⟨rfl, hB6, hb6, _⟩
            rw [← hsucc2.out] at hB6
            replace hB6 := Lib.hid hB6
            have hb7 := hb5'.trans hb6
            have hb8 := (hb4'.trans (hb5.out.mono hb4.size)).trans hb6
            clear hB4 hB5 hb6 hb5' hb5 hhx hb4 hb4' hX4 hW4
            go_wp2
            go_roundw
            case rel => exact ⟨j + 1, by omega, by go_num, hB6.out, hb7, hb8⟩
            case measure => simp [intOf]; omega
          · obtain rfl : j = hs.length := by omega
            rw [List.take_length] at hB3
            have hlast : Hid (pre ++ n ++ lineH hs ++ [10] = printS (T.take (k + 1))) := Lib.hid (by rw [hsucc.out]; simp)
            have hll : (pre ++ n ++ lineH hs).length ≤ 20000 := by
              rw [List.length_append, List.length_append, lineH_len hho.out]; omega
            obtain ⟨q, hq⟩ : ∃ q, q = pre ++ n ++ lineH hs := ⟨_, rfl⟩
            rw [← hq] at hll hlast hB3
            clear hq
            have hws := Lib.hid (ws_any w1.heap.size w1.heap.size q [10] wr hB3 (by simp; omega) hb3.size)
            replace hb3 := Lib.hid hb3
            clear hB3 hb3'
            go_wp2_with fail
            refine hws.out.mono ?_
            rintro e W6 ⟨rfl, hB6, hb6, _⟩
            rw [hlast.out] at hB6
            replace hB6 := Lib.hid hB6
            have hb7 := hb3.out.trans hb6
            clear hb6 hws
            go_wp2
            go_roundw
            case rel => exact ⟨k + 1, by omega, by go_num, hB6.out, hb7⟩
            case measure => simp [intOf]; omega
      · obtain rfl : k = T.length := by omega
        rw [List.take_length] at hB
        have hstr := Lib.hid (Tryz.Builder_String_any w1.heap.size w1.heap.size (printS T) wr hB hb.size)
        replace hb := Lib.hid hb
        go_wp2_with fail
        refine hstr.out.mono ?_
        rintro e w2 ⟨rfl, hb2⟩
        go_wp2
        go_ret2
        exact ⟨two_ret (by rw [hpt.out]; rfl) rfl, (hb1.out.trans ((hb.out.trans hb2).mono hb1.out.size))⟩
  · have hpt : Hid (printT T = []) := Lib.hid (by unfold printT; rw [if_neg hm])
    obtain ⟨x, hx⟩ : ∃ x, x = mayE T := ⟨_, rfl⟩
    rw [← hx] at hmay hm ⊢
    clear hx h hf
    have g1 : (x != 0) = true := by simpa using hm
    go_enter Tryz.func151, Tryz.ntmps151
    go_wp2_with fail
    refine hmay.out.mono ?_
    rintro e w1 ⟨rfl, hb1⟩
    replace hb1 := Lib.hid hb1
    go_wp2
    go_ret2
    exact ⟨two_ret (by rw [hpt.out]; rfl) rfl, hb1.out⟩
end Go.Proofs.YtamdhaoglapnnaaGreatDoor
end
end

section
/- The walks of slices.Equal at digests and of the reference's Same. -/
namespace Go.Proofs.YtamdhaoglapnnaaGreatDoor
open Go.RowKit

set_option maxRecDepth 100000 in
set_option maxHeartbeats 4000000 in
theorem equal_any (x y : List Str) (v u : Value) (ok ok' : Nat → Prop) (w : World) (h : HdIs w ok v x) (h' : HdIs w ok' u y) (hx : HFit x) (hy : HFit y) :
    Calls Tryz.prog 305 #[v, u] w fun e w' => e = .returned (.bool (decide (x = y))) ∧ Below w.heap.size w w' := by
  obtain ⟨A, c, rfl, hc, hr⟩ := h
  obtain ⟨A', c', rfl, hc', hr'⟩ := h'
  have hX : Hid (HdIs w ok (.slice A x.length c) x) := Lib.hid ⟨A, c, rfl, hc, hr⟩
  have hY : Hid (HdIs w ok' (.slice A' y.length c') y) := Lib.hid ⟨A', c', rfl, hc', hr'⟩
  have hlx : x.length ≤ 4398046511104 := hx.len
  have hly : y.length ≤ 4398046511104 := hy.len
  have hox := Lib.hid hx.ok
  have hoy := Lib.hid hy.ok
  clear hr hr' hc hc' hx hy
  by_cases hl : x.length = y.length
  · have g0 : ((x.length : Int) != (y.length : Int)) = false := by simp [hl]
    replace hl := Lib.hid hl
    go_enter Tryz.func305, Tryz.ntmps305
    go_wp2
    go_loopw [13] (fun i wr => ∃ k : Nat, k ≤ x.length ∧ i = .int .i64 k ∧ Hid (x.take k = y.take k) ∧ Below w.heap.size w wr) (fun i _ => x.length - (intOf i).toNat)
    case atStart => exact ⟨0, Nat.zero_le _, rfl, Lib.hid rfl, Below.refl _ _⟩
    case round =>
      obtain ⟨k, hk, rfl, ht, hb⟩ := hrel
      by_cases hlt : k < x.length
      · have hlt' : k < y.length := by rw [← hl.out]; exact hlt
        obtain ⟨b1, o1, rfl, _, hb1, hc1⟩ := hX.out.dig hox.out k hlt
        obtain ⟨b2, o2, rfl, _, hb2, hc2⟩ := hY.out.dig hoy.out k hlt'
        have hxl := hox.out x[k] (List.getElem_mem hlt)
        have hyl := hoy.out y[k] (List.getElem_mem hlt')
        have hc1' : Hid (∀ n : Nat, ∀ j v, (x[k].map B)[j]? = some v → (wr.drewN n).cell? ⟨b1, o1 + k * 32 + j, none⟩ = some v) := Lib.hid (fun n j v hv => by
          show wr.cell? _ = _
          rw [hb.cell (p := ⟨b1, _, none⟩) hb1]; exact hc1 j v hv)
        have hc2' : Hid (∀ n : Nat, ∀ j v, (y[k].map B)[j]? = some v → (wr.drewN n).cell? ⟨b2, o2 + k * 32 + j, none⟩ = some v) := Lib.hid (fun n j v hv => by
          show wr.cell? _ = _
          rw [hb.cell (p := ⟨b2, _, none⟩) hb2]; exact hc2 j v hv)
        have hyes : Hid (x[k] = y[k] → x.take (k + 1) = y.take (k + 1)) := Lib.hid (fun e => by rw [take_at hlt, take_at hlt', ht.out, e])
        have hno : Hid (x[k] ≠ y[k] → x ≠ y) := Lib.hid (fun hne e => hne (by subst e; rfl))
        obtain ⟨p, hp⟩ : ∃ p, p = x[k] := ⟨_, rfl⟩
        obtain ⟨q, hq⟩ : ∃ q, q = y[k] := ⟨_, rfl⟩
        rw [← hp] at hxl hc1' hyes hno
        rw [← hq] at hyl hc2' hyes hno
        clear hp hq hc1 hc2
        have hs1 := Lib.hid (digSz hxl)
        have hs2 := Lib.hid (digSz hyl)
        replace hxl := Lib.hid hxl
        replace hyl := Lib.hid hyl
        have i1 : (0 : Int) ≤ (k : Int) := by omega
        have i2 : (k : Int) < (x.length : Int) := by omega
        have i3 : (k : Int) < (y.length : Int) := by omega
        obtain ⟨t, htt⟩ : ∃ t, t = (!(p == q)) := ⟨_, rfl⟩
        replace htt := Lib.hid htt
        go_wp2
        refine wp_region_quiet_lit (by kernel_rfl) (by kernel_rfl) ?_
        repeat (first
          | (refine wpQuiet_load_at 115 (.tmp 18) rfl rfl b1 (o1 + k * 32) rfl (p.map B) (fun w hw => ?_) _ Tryz.underlying115 rfl hs1.out ?_
             · obtain ⟨n, rfl⟩ := hw
               exact hc1'.out n
             go_frame)
          | (refine wpQuiet_load_at 115 (.tmp 22) rfl rfl b2 (o2 + k * 32) rfl (q.map B) (fun w hw => ?_) _ Tryz.underlying115 rfl hs2.out ?_
             · obtain ⟨n, rfl⟩ := hw
               exact hc2'.out n
             go_frame)
          | (refine wpQuiet_neq_dig (.tmp 19) (.tmp 23) _ rfl rfl p q rfl rfl hxl.out hyl.out t htt.out.symm ?_; go_frame)
          | go_big_quiet_step (fail))
        refine wpQuiet_nil ?_
        rintro _ ⟨nq, rfl⟩
        cases t with
        | true =>
          have hne : Hid (x ≠ y) := Lib.hid (hno.out (fun e => by have := htt.out; rw [e] at this; simp at this))
          go_wp2
          go_ret
          exact ⟨by rw [decide_eq_false hne.out]; rfl, below_drewN hb nq⟩
        | false =>
          have hnx : Hid (x.take (k + 1) = y.take (k + 1)) := Lib.hid (hyes.out (by simpa using htt.out))
          go_wp2
          go_roundw
          case rel => exact ⟨k + 1, by omega, by go_num, hnx, below_drewN hb nq⟩
          case measure => simp [intOf]; omega
      · obtain rfl : k = x.length := by omega
        have he : Hid (x = y) := Lib.hid (by
          have := ht.out
          rwa [List.take_length, List.take_of_length_le (by rw [hl.out]; exact Nat.le_refl _)] at this)
        go_wp2
        go_ret
        exact ⟨by rw [decide_eq_true he.out]; rfl, hb⟩
  · have g0 : ((x.length : Int) != (y.length : Int)) = true := by simp; omega
    have hne : Hid (x ≠ y) := Lib.hid (fun e => hl (by rw [e]))
    clear hl
    go_enter Tryz.func305, Tryz.ntmps305
    go_wp2
    go_ret
    exact ⟨by rw [decide_eq_false hne.out]; rfl, Below.refl _ _⟩

end Go.Proofs.YtamdhaoglapnnaaGreatDoor
end

section
/- The walk of the reference's May. -/
namespace Go.Proofs.YtamdhaoglapnnaaGreatDoor
open Go.RowKit
attribute [local go_sem] toL
end Go.Proofs.YtamdhaoglapnnaaGreatDoor
end

section
/- The walk of the reference's Print. -/
namespace Go.Proofs.YtamdhaoglapnnaaGreatDoor
open Go.RowKit

end Go.Proofs.YtamdhaoglapnnaaGreatDoor
end
