/- Joined: RjSp, RjLn, RjPa. -/
import Derived.Test.YtamdhaoglapnnaaGreatDoorM04
import Derived.Lib.IndexLaws
import Derived.Test.YtamdhaoglapnnaaGreatDoorM05
import Derived.RangeFuncNested
import Derived.RangeFuncBound
import Derived.RangeFuncCalls
import Derived.RangeFuncLeaves
import Derived.Shelf.Abstract
import Derived.Shelf.RegionOpen
import Derived.WalkKit
import Derived.OwnWalkIn
import Derived.TacticsInMore
import Derived.LoopNIn
import Derived.LoopIn
import Derived.RangeFuncMany
import Derived.RangeFuncKeeps
import Derived.Test.YtamdhaoglapnnaaGreatDoorM01
import Derived.WalkMore
section
/- Joined: RfL1, RfL2. -/
section
/- Texts that are cut at bytes, in plain words. -/
namespace Go.Proofs.YtamdhaoglapnnaaGreatDoor

def splitW : Str → List Str
  | [] => [[]]
  | c :: r => if c = 32 then [] :: splitW r else match splitW r with | [] => [[c]] | l :: ls => (c :: l) :: ls
def linesOf : Str → List Str
  | [] => []
  | c :: r => if c = 10 then [10] :: linesOf r else match linesOf r with | [] => [[c]] | l :: ls => (c :: l) :: ls
theorem splitW_c (c : UInt8) (r : Str) : splitW (c :: r) = if c = 32 then [] :: splitW r else match splitW r with | [] => [[c]] | l :: ls => (c :: l) :: ls := rfl
theorem linesOf_c (c : UInt8) (r : Str) : linesOf (c :: r) = if c = 10 then [10] :: linesOf r else match linesOf r with | [] => [[c]] | l :: ls => (c :: l) :: ls := rfl
theorem splitW_cons_ne (s : Str) : ∃ l ls, splitW s = l :: ls := by
  induction s with
  | nil => exact ⟨_, _, rfl⟩
  | cons c r ih =>
    obtain ⟨l, ls, e⟩ := ih
    unfold splitW
    split
    · exact ⟨_, _, rfl⟩
    · rw [e]; exact ⟨_, _, rfl⟩
theorem splitW_none : ∀ {s : Str}, (∀ c ∈ s, c ≠ 32) → splitW s = [s]
  | [], _ => rfl
  | c :: r, h => by
    unfold splitW
    rw [if_neg (h c (by simp)), splitW_none (s := r) (fun x hx => h x (by simp [hx]))]
theorem splitW_at : ∀ {a b : Str}, (∀ c ∈ a, c ≠ 32) → splitW (a ++ 32 :: b) = a :: splitW b
  | [], b, _ => by simp [splitW]
  | c :: r, b, h => by
    show splitW (c :: (r ++ 32 :: b)) = _
    rw [splitW_c, if_neg (h c (by simp)), splitW_at (a := r) (fun x hx => h x (by simp [hx]))]
theorem linesOf_none : ∀ {s : Str}, s ≠ [] → (∀ c ∈ s, c ≠ 10) → linesOf s = [s]
  | [], h, _ => absurd rfl h
  | [c], _, h => by unfold linesOf; rw [if_neg (h c (by simp))]; rfl
  | c :: d :: r, _, h => by
    unfold linesOf
    rw [if_neg (h c (by simp)), linesOf_none (s := d :: r) (by simp) (fun x hx => h x (by simp at hx ⊢; right; exact hx))]
theorem linesOf_at : ∀ {a b : Str}, (∀ c ∈ a, c ≠ 10) → linesOf (a ++ 10 :: b) = (a ++ [10]) :: linesOf b
  | [], b, _ => by simp [linesOf]
  | c :: r, b, h => by
    show linesOf (c :: (r ++ 10 :: b)) = _
    rw [linesOf_c, if_neg (h c (by simp)), linesOf_at (a := r) (fun x hx => h x (by simp [hx]))]
    rfl
/-- Where a byte is first. -/
theorem ix_none {s : Str} {c : UInt8} (h : Lib.indexByte s c = -1) : ∀ x ∈ s, x ≠ c := by
  intro x hx e
  obtain ⟨k, hk, rfl⟩ := List.mem_iff_getElem.1 hx
  exact Lib.indexByte_none h k (by rw [List.getElem?_eq_getElem hk, e])
theorem ix_some {s : Str} {c : UInt8} {i : Nat} (h : Lib.indexByte s c = i) : i < s.length ∧ s = s.take i ++ c :: s.drop (i + 1) ∧ ∀ x ∈ s.take i, x ≠ c := by
  obtain ⟨h1, h2⟩ := Lib.indexByte_some h
  obtain ⟨hi, he⟩ := List.getElem?_eq_some_iff.1 h1
  refine ⟨hi, ?_, fun x hx e => ?_⟩
  · rw [← he, ← List.drop_eq_getElem_cons hi, List.take_append_drop]
  · obtain ⟨k, hk, rfl⟩ := List.mem_iff_getElem.1 hx
    rw [List.length_take] at hk
    rw [List.getElem_take] at e
    exact h2 k (by omega) (by rw [List.getElem?_eq_getElem (by omega), e])
theorem ix_cases (s : Str) (c : UInt8) : (Lib.indexByte s c = -1 ∧ ∀ x ∈ s, x ≠ c) ∨ ∃ i : Nat, Lib.indexByte s c = i ∧ i < s.length ∧ s = s.take i ++ c :: s.drop (i + 1) ∧ ∀ x ∈ s.take i, x ≠ c := by
  have := Lib.indexByte_ge s c
  rcases Int.lt_or_le (Lib.indexByte s c) 0 with h | h
  · have e : Lib.indexByte s c = -1 := by omega
    exact .inl ⟨e, ix_none e⟩
  · obtain ⟨i, hi⟩ := Int.eq_ofNat_of_zero_le h
    exact .inr ⟨i, hi, ix_some hi⟩
theorem split_len (s : Str) : (splitW s).length = s.count 32 + 1 := by
  induction s with
  | nil => rfl
  | cons c r ih =>
    obtain ⟨l, ls, e⟩ := splitW_cons_ne r
    unfold splitW
    rw [e] at ih ⊢
    by_cases hc : c = 32
    · rw [if_pos hc, hc]; simp at ih ⊢; omega
    · rw [if_neg hc]; simp [hc] at ih ⊢; omega
/-- Lines of a text, one by one. -/
theorem lines_step (s : Str) (hs : s ≠ []) : (Lib.indexByte s 10 = -1 ∧ linesOf s = [s]) ∨ ∃ i : Nat, Lib.indexByte s 10 = i ∧ i < s.length ∧ linesOf s = s.take (i + 1) :: linesOf (s.drop (i + 1)) := by
  rcases ix_cases s 10 with ⟨h1, h2⟩ | ⟨i, h1, h2, h3, h4⟩
  · exact .inl ⟨h1, linesOf_none hs h2⟩
  · refine .inr ⟨i, h1, h2, ?_⟩
    have e : s.take (i + 1) = s.take i ++ [10] := by
      have := Lib.indexByte_some h1
      rw [List.take_add_one, this.1]; rfl
    rw [e]
    conv => lhs; rw [h3]
    exact linesOf_at h4
end Go.Proofs.YtamdhaoglapnnaaGreatDoor
end

section
/- The walks of strings.Split at a blank, of strings.TrimSuffix at a line's end. -/
namespace Go.Proofs.YtamdhaoglapnnaaGreatDoor
open Go.RowKit

theorem idx_any (s : Str) (w : World) : Calls Tryz.prog 284 #[.string ⟨s.toArray⟩, .string ⟨#[32]⟩] w fun e w' => e = .returned (.int .i64 (Lib.indexByte s 32)) ∧ w = w' :=
  (Tryz.strings_Index_one ⟨s.toArray⟩ 32 w).mono fun _ _ ⟨h1, h2⟩ => ⟨h1, h2.symm⟩
theorem cnt_any (s : Str) (w : World) : Calls Tryz.prog 283 #[.string ⟨s.toArray⟩, .string ⟨#[32]⟩] w fun e w' => e = .returned (.int .i64 (s.count 32 : Nat)) ∧ w = w' :=
  (Tryz.strings_Count_one ⟨s.toArray⟩ 32 w).mono fun _ _ ⟨h1, h2⟩ => ⟨h1, h2.symm⟩
theorem ext_drop (t : Str) (j : Nat) : (⟨t.toArray⟩ : ByteArray).extract j t.length = ⟨(t.drop j).toArray⟩ := by
  apply ByteArray.ext
  simp
  exact List.take_of_length_le (by simp)
theorem ext_tk (t : Str) (j : Nat) : (⟨t.toArray⟩ : ByteArray).extract 0 j = ⟨(t.take j).toArray⟩ := by
  apply ByteArray.ext
  simp
theorem run_str_to (w : World) (t : Str) (j : Nat) (hj : j ≤ t.length) : (Instr.sliceAt 9 (.string ⟨t.toArray⟩) none (some (.int .i64 (j : Int))) none).run Tryz.prog w = .ok (.string ⟨(t.take j).toArray⟩) w := by
  have hs : (⟨t.toArray⟩ : ByteArray).size = t.length := strLn t
  simp [Instr.sliceAt, Instr.slice, run_underlying Tryz.underlying9, Instr.sliceBounds, run_sliceBound, hs, hj, ext_tk]
theorem run_str_from (w : World) (t : Str) (j : Nat) (hj : j ≤ t.length) : (Instr.sliceAt 9 (.string ⟨t.toArray⟩) (some (.int .i64 (j : Int))) none none).run Tryz.prog w = .ok (.string ⟨(t.drop j).toArray⟩) w := by
  have hs : (⟨t.toArray⟩ : ByteArray).size = t.length := strLn t
  simp [Instr.sliceAt, Instr.slice, run_underlying Tryz.underlying9, Instr.sliceBounds, run_sliceBound, hs, hj, ext_drop]
theorem strInfo : ∃ i, Tryz.prog.info? 9 = some i ∧ i.zero = some (.string ⟨#[]⟩) ∧ i.size = 1 ∧ i.bytes = 16 := by
  have h : (Tryz.prog.info? 9).map (fun i => (i.zero, i.size, i.bytes)) = some (some (.string ⟨#[]⟩), 1, 16) := by kernel_rfl
  cases hq : Tryz.prog.info? 9 with
  | none => simp [hq] at h
  | some i =>
    simp only [hq, Option.map_some, Option.some.injEq, Prod.mk.injEq] at h
    exact ⟨i, rfl, h.1, h.2.1, h.2.2⟩
theorem made_str (n : Nat) : (madeCells (Value.string ⟨#[]⟩).cells n).toList = List.replicate n (.string ⟨#[]⟩) := by
  have h1 : (Value.string ⟨#[]⟩).cells = #[.string ⟨#[]⟩] := rfl
  rw [h1]
  simp only [madeCells, List.size_toArray, List.length_cons, List.length_nil, Nat.zero_add, Nat.mod_one]
  apply List.ext_getElem
  · simp
  · intro i _ _; simp
theorem set_pad (ps : List Str) (m : Nat) (x : Str) : (ps.map strV ++ List.replicate (m + 1) (Value.string ⟨#[]⟩)).set ps.length (.string ⟨x.toArray⟩) = (ps ++ [x]).map strV ++ List.replicate m (.string ⟨#[]⟩) := by
  have : (ps.map strV).length = ps.length := by simp
  rw [List.set_append_right _ _ (by omega), this, Nat.sub_self]
  simp [List.replicate_succ, strV]
/-- What Split gives. -/
def SplitTo (w : World) (ps : List Str) (e : Ending) (w' : World) : Prop := ∃ g, e = .returned (.slice (some ⟨g, 0, none⟩) ps.length ps.length) ∧ Blk w' g 9 (ps.map strV) ∧ w.heap.size ≤ g ∧ Below w.heap.size w w'
set_option maxRecDepth 100000 in
set_option maxHeartbeats 4000000 in
theorem gsplit_any (s : Str) (w : World) (hs : s.length ≤ 4294967296) :
    Calls Tryz.prog 213 #[.string ⟨s.toArray⟩, .string ⟨#[32]⟩, .int .i64 0, .int .i64 (-1)] w (SplitTo w (splitW s)) := by
  have hlen := split_len s
  have hcl : s.count 32 ≤ s.length := List.count_le_length
  obtain ⟨n, hn⟩ : ∃ n, n = s.count 32 := ⟨_, rfl⟩
  have hcnt := Lib.hid (cnt_any s w)
  rw [← hn] at hlen hcl hcnt
  have hsl : (⟨s.toArray⟩ : ByteArray).size = s.length := strLn s
  obtain ⟨i0, hi0, hz0, hz1, hz2⟩ := strInfo
  replace hi0 := Lib.hid hi0
  replace hz0 := Lib.hid hz0
  replace hz1 := Lib.hid hz1
  have hz2' : Hid (i0.bytes * (n + 1) ≤ 281474976710656) := Lib.hid (by rw [hz2]; omega)
  clear hz2
  replace hn := Lib.hid hn
  replace hlen := Lib.hid hlen
  have hmin : min (n : Int) (s.length : Int) = (n : Int) := by omega
  go_enter Tryz.func213, Tryz.ntmps213
  go_wp2_with (first
    | (go_at_call 283; refine hcnt.out.mono ?_; rintro e w' ⟨rfl, rfl⟩)
    | (refine wpList_make_full _ rfl (.tmp 30) (.tmp 30) 64 rfl w.heap.size 9 i0 (.string ⟨#[]⟩) 1 Tryz.underlying64 hi0.out hz0.out hz1.out .i64 .i64 _ _ (n + 1) rfl rfl rfl rfl hz2'.out (by unfold maxLen; omega) (Nat.le_refl _) ?_; intro w2 hrow2 hg2; replace hrow2 := Lib.hid hrow2; replace hg2 := Lib.hid hg2; go_frame))
  have hB2 : Blk w2 w.heap.size 9 (([] : List Str).map strV ++ List.replicate (n + 1) (.string ⟨#[]⟩)) := by
    rcases hrow2.out.2 with ⟨h, _⟩ | ⟨g', cap', cur', h, _, hg, _, _, h3, h4⟩
    · cases h
    · injection h with ha hb hc
      injection ha with ha
      injection ha with ha
      subst ha; subst hc
      rw [Nat.mul_one, made_str] at h4
      have hcl : cur'.toList.length = n + 1 := by simpa using h3
      rw [List.take_of_length_le (by omega)] at h4
      unfold Blk
      rw [hg, ← h4]
      simp
  have hb2 : Below w.heap.size w w2 := ⟨hg2.out.os, hg2.out.tape, hg2.out.output, hg2.out.size, fun k hk => hg2.out.block k hk (by simp)⟩
  clear hrow2 hg2 hcnt hmin hz2' hi0 hz0 hz1
  go_wp2_with fail
  go_loopw [10, 0] (fun i t wr => ∃ (k : Nat) (ps : List Str) (r : Str), k ≤ n ∧ i = .int .i64 k ∧ t = .string ⟨r.toArray⟩ ∧ ps.length = k ∧ r.length ≤ s.length ∧ Hid (splitW s = ps ++ splitW r) ∧ Hid (r.count 32 = n - k) ∧ Blk wr w.heap.size 9 (ps.map strV ++ List.replicate (n - k + 1) (.string ⟨#[]⟩)) ∧ Below w.heap.size w wr) (fun i _ _ => n - (intOf i).toNat)
  case atStart => exact ⟨0, [], s, Nat.zero_le _, rfl, rfl, rfl, Nat.le_refl _, Lib.hid rfl, Lib.hid (by rw [hn.out]; rfl), hB2, hb2⟩
  case round =>
    clear hB2 hb2
    obtain ⟨k, ps, r, hk, rfl, rfl, hpl, hrl, hsp, hrc, hB, hb⟩ := hrel
    have hix := Lib.hid (idx_any r)
    have hrs : (⟨r.toArray⟩ : ByteArray).size = r.length := strLn r
    by_cases hlt : k < n
    · rcases ix_cases r 32 with ⟨e, hnone⟩ | ⟨j, e, hj, hrj, hfst⟩
      · exfalso
        have : r.count 32 = 0 := List.count_eq_zero.2 (fun hm => hnone _ hm rfl)
        have := hrc.out
        omega
      · rw [e] at hix
        have hs1 := fun W => run_str_to W r j (by omega)
        have hs2 := fun W => run_str_from W r (j + 1) (by omega)
        rw [show ((j + 1 : Nat) : Int) = (j : Int) + 1 from rfl] at hs2
        have hsp2 : Hid (splitW s = (ps ++ [r.take j]) ++ splitW (r.drop (j + 1))) := Lib.hid (by
          rw [hsp.out]
          conv => lhs; rw [hrj]
          rw [splitW_at hfst, List.append_assoc]; rfl)
        have hrc2 : Hid ((r.drop (j + 1)).count 32 = n - (k + 1)) := Lib.hid (by
          have h1 := hrc.out
          rw [hrj, List.count_append, List.count_cons_self, List.count_eq_zero.2 (fun hm => hfst _ hm rfl)] at h1
          omega)
        have hset : Hid ((ps.map strV ++ List.replicate (n - k + 1) (Value.string ⟨#[]⟩)).set k (.string ⟨(r.take j).toArray⟩) = (ps ++ [r.take j]).map strV ++ List.replicate (n - (k + 1) + 1) (.string ⟨#[]⟩)) := Lib.hid (by
          have := set_pad ps (n - k) (r.take j)
          rw [hpl] at this
          rw [this]; congr 2; omega)
        have hdl : (r.drop (j + 1)).length ≤ s.length := by rw [List.length_drop]; omega
        obtain ⟨x, hx⟩ : ∃ x, x = r.take j := ⟨_, rfl⟩
        obtain ⟨y, hy⟩ : ∃ y, y = r.drop (j + 1) := ⟨_, rfl⟩
        rw [← hx] at hs1 hsp2 hset
        rw [← hy] at hs2 hsp2 hrc2 hdl
        have hz := hB.frozen k
        have hcell : wr.cell? ⟨w.heap.size, k, none⟩ = some (.string ⟨#[]⟩) := by
          rw [hB.cell, List.getElem?_append_right (by simp; omega)]
          simp [hpl]
        have i1 : (0 : Int) ≤ (k : Int) := by omega
        have i2 : (k : Int) < (n : Int) + 1 := by omega
        have i3 : (0 : Int) ≤ (j : Int) := by omega
        have d1 : decide ((j : Int) < 0) = false := decide_eq_false (by omega)
        clear hx hy hsp hrc e hrj hfst
        go_wp2_with ((go_at_call 284; refine (hix.out _).mono ?_; rintro e w' ⟨rfl, rfl⟩))
        go_roundw
        case rel =>
          refine ⟨k + 1, ps ++ [x], y, by omega, by go_num, rfl, by simp [hpl], hdl, hsp2, hrc2, ?_, hb.setCell (p := ⟨w.heap.size, k, none⟩) (Nat.le_refl _) _⟩
          rw [← hset.out]
          exact hB.set_ k _
        case measure => simp [intOf]; omega
    · obtain rfl : k = n := by omega
      have hlast : Hid (splitW s = ps ++ [r]) := Lib.hid (by
        rw [hsp.out, splitW_none (fun c hc e => by
          have h0 : r.count 32 = 0 := by rw [hrc.out]; omega
          rw [e] at hc
          exact absurd hc (List.count_eq_zero.1 h0))])
      have hset : Hid ((ps.map strV ++ List.replicate (k - k + 1) (Value.string ⟨#[]⟩)).set k (.string ⟨r.toArray⟩) = (ps ++ [r]).map strV) := Lib.hid (by
        have := set_pad ps 0 r
        rw [hpl] at this
        rw [Nat.sub_self, this]; simp)
      have hz := hB.frozen k
      have hcell : wr.cell? ⟨w.heap.size, k, none⟩ = some (.string ⟨#[]⟩) := by
        rw [hB.cell, List.getElem?_append_right (by simp; omega)]
        simp [hpl]
      have hs3 := fun W => run_slice_to (P := Tryz.prog) W 64 9 1 Tryz.underlying64 (by kernel_rfl) (some ⟨w.heap.size, 0, none⟩) (k + 1) (k + 1) (k + 1) (Nat.le_refl _)
      rw [show ((k + 1 : Nat) : Int) = (k : Int) + 1 from rfl] at hs3
      have i1 : (0 : Int) ≤ (k : Int) := by omega
      have i2 : (k : Int) < (k : Int) + 1 := by omega
      clear hsp hrc hix
      go_wp2
      go_ret
      refine ⟨w.heap.size, ?_, ?_, Nat.le_refl _, hb.setCell (p := ⟨w.heap.size, k, none⟩) (Nat.le_refl _) _⟩
      · rw [hlen.out]; rfl
      · rw [hlast.out, ← hset.out]
        exact hB.set_ k _
set_option maxRecDepth 100000 in
set_option maxHeartbeats 1000000 in
theorem split_any (s : Str) (w : World) (hs : s.length ≤ 4294967296) :
    Calls Tryz.prog 149 #[.string ⟨s.toArray⟩, .string ⟨#[32]⟩] w (SplitTo w (splitW s)) := by
  have h := Lib.hid (gsplit_any s w hs)
  go_enter Tryz.func149, Tryz.ntmps149
  go_wp2_with fail
  refine h.out.mono ?_
  rintro e w2 ⟨g, rfl, hB, hg, hb⟩
  replace hB := Lib.hid hB
  replace hb := Lib.hid hb
  go_wp2
  go_ret
  exact ⟨g, rfl, hB.out, hg, hb.out⟩
end Go.Proofs.YtamdhaoglapnnaaGreatDoor
end
end

section
/- Joined: RfL3, RfL4. -/
section
/- The walk of strings.Lines' iterator: its state lies in a cell of its own. -/
namespace Go.Proofs.YtamdhaoglapnnaaGreatDoor
open Go.RowKit Go.Shelf
attribute [local go_sem] Oper.semAt_some

def KeepStr (Bs : Nat) (A B : World) : Prop := ∀ cs, Blk A Bs 9 cs → Blk B Bs 9 cs
/-- How much is left. -/
def restLen (Bs : Nat) (W : World) : Nat := match W.cell? ⟨Bs, 0, none⟩ with | some (.string b) => b.size | _ => 0
theorem restLen_eq {Bs : Nat} {W : World} {r : Str} (h : Blk W Bs 9 [strV r]) : restLen Bs W = r.length := by
  unfold restLen
  rw [h.cell]
  show (⟨r.toArray⟩ : ByteArray).size = _
  exact strLn r
theorem ixb10 (s : Str) (w : World) : Calls Tryz.prog 50 #[.string ⟨s.toArray⟩, .int .u8 10] w fun e w' => e = .returned (.int .i64 (Lib.indexByte s 10)) ∧ w = w' :=
  (Tryz.strings_IndexByte ⟨s.toArray⟩ 10 w).mono fun _ _ ⟨h1, h2⟩ => ⟨h1, h2.symm⟩
theorem setCell_grown (w : World) (g i : Nat) (u : Value) : w.grownBy (w.setCell ⟨g, i, none⟩ u) (some g) :=
  ⟨rfl, rfl, rfl, by simp, fun k _ hne => Below.heap_setCell w ⟨g, i, none⟩ u k (fun e => hne (by have : k = g := e; rw [this]))⟩
set_option maxRecDepth 100000 in
set_option maxHeartbeats 4000000 in
theorem lines_in (n l Bs : Nat) (s : Str) (hs : s.length ≤ 4294967296) (J Jx : List Str → World → Prop) (W : World)
    (hJ : ∀ pre A B, J pre A → A.grownBy B (some Bs) → (∃ cs, Blk A Bs 9 cs) → J pre B)
    (hY : ∀ pre x W1, J pre W1 → x.length ≤ s.length → (∃ r, linesOf s = pre ++ x :: r) → YieldAt Fence.wide (n - 1) Tryz.prog l #[strV x] W1 fun e W' =>
      (e = .returned (.bool true) ∧ J (pre ++ [x]) W' ∧ KeepStr Bs W1 W') ∨ (e = .returned (.bool false) ∧ Jx (pre ++ [x]) W'))
    (hB : Blk W Bs 9 [strV s]) (h0 : J [] W) :
    CallsIn Fence.wide n Tryz.prog 49 #[.func (.yield l) #[] #[], .pointer (some ⟨Bs, 0, none⟩)] W fun e W' => (∃ v, e = .returned v) ∧ (J (linesOf s) W' ∨ ∃ pre, Jx pre W') := by
  refine callsIn_of_wp Tryz.func49 rfl trivial ?_ rfl
  simp only [Tryz.ntmps49, List.size_toArray, List.length_cons, List.length_nil, Nat.reduceAdd, Nat.reduceSub, Array.replicate_succ, Array.replicate_zero, List.push_toArray, List.append_toArray, List.nil_append, List.cons_append]
  gi_wp2
  gi_loopw [] (fun wr => ∃ pre r, r.length ≤ s.length ∧ Hid (linesOf s = pre ++ linesOf r) ∧ Blk wr Bs 9 [strV r] ∧ J pre wr) (fun wr => restLen Bs wr)
  case atStart => exact ⟨[], s, Nat.le_refl _, Lib.hid rfl, hB, h0⟩
  case round =>
    obtain ⟨pre, r, hrl, hln, hBr, hJr⟩ := hrel
    have hsz : (⟨r.toArray⟩ : ByteArray).size = r.length := strLn r
    have hc0 : wr.cell? ⟨Bs, 0, none⟩ = some (.string ⟨r.toArray⟩) := by rw [hBr.cell]; rfl
    have hz0 := hBr.frozen 0
    have hrest := restLen_eq hBr
    by_cases hr : r.length = 0
    · have hr0 : r = [] := List.eq_nil_of_length_eq_zero hr
      have hend : Hid (J (linesOf s) wr) := Lib.hid (by rw [hln.out, hr0]; simpa [linesOf] using hJr)
      have d1 : decide (0 < (r.length : Int)) = false := decide_eq_false (by omega)
      gi_wp2
      go_end0
      exact ⟨⟨_, rfl⟩, .inl hend.out⟩
    · have d1 : decide (0 < (r.length : Int)) = true := decide_eq_true (by omega)
      have hix := Lib.hid (ixb10 r)
      have hne : r ≠ [] := fun e => hr (by rw [e]; rfl)
      rcases lines_step r hne with ⟨e, hl1⟩ | ⟨i, e, hi, hl1⟩
      · rw [e] at hix
        have hB2 : Blk (wr.setCell ⟨Bs, 0, none⟩ (.string ⟨#[]⟩)) Bs 9 [strV []] := hBr.set_ 0 _
        have hg2 : wr.grownBy (wr.setCell ⟨Bs, 0, none⟩ (.string ⟨#[]⟩)) (some Bs) := setCell_grown wr Bs 0 _
        have hJ2 := hJ _ _ _ hJr hg2 ⟨_, hBr⟩
        obtain ⟨fn, tmps, assign, body, hy, hR⟩ := hY pre r _ hJ2 hrl ⟨[], by rw [hln.out, hl1]⟩
        have hlast : Hid (linesOf s = pre ++ [r]) := Lib.hid (by rw [hln.out, hl1])
        clear hln hl1
        unfold strV at hy
        gi_wp2
        refine ⟨trivial, fun h => (by cases h), (callsIn_wide.2 (hix.out _)).mono ?_⟩
        rintro e w' ⟨rfl, rfl⟩
        gi_wp2
        refine ⟨fun h => (by cases h), hR.mono ?_⟩
        rintro e W3 (⟨rfl, hJ3, hk3⟩ | ⟨rfl, hJx3⟩)
        · have hB3 := hk3 _ hB2
          gi_wp2
          go_roundw
          case rel => exact ⟨pre ++ [r], [], by simp, Lib.hid (by rw [hlast.out]; simp [linesOf]), hB3, hJ3⟩
          case measure => rw [restLen_eq hB3, hrest]; simp; omega
        · gi_wp2
          refine bodyPost_ret (results_none rfl _ _ _) rfl ?_
          exact ⟨⟨_, rfl⟩, .inr ⟨_, hJx3⟩⟩
      · rw [e] at hix
        have hB2 : ∀ nq, Blk ((wr.drewN nq).setCell ⟨Bs, 0, none⟩ (.string ⟨(r.drop (i + 1)).toArray⟩)) Bs 9 [strV (r.drop (i + 1))] := fun nq => (hBr.drewN nq).set_ 0 _
        have hg2 : ∀ nq, wr.grownBy ((wr.drewN nq).setCell ⟨Bs, 0, none⟩ (.string ⟨(r.drop (i + 1)).toArray⟩)) (some Bs) := fun nq => ⟨rfl, rfl, rfl, by simp, fun k _ hne => Below.heap_setCell (wr.drewN nq) ⟨Bs, 0, none⟩ _ k (fun e => hne (by have : k = Bs := e; rw [this]))⟩
        have hYY : ∀ nq, YieldAt Fence.wide (n - 1) Tryz.prog l #[strV (r.take (i + 1))] ((wr.drewN nq).setCell ⟨Bs, 0, none⟩ (.string ⟨(r.drop (i + 1)).toArray⟩)) fun e W' =>
            (e = .returned (.bool true) ∧ J (pre ++ [r.take (i + 1)]) W' ∧ KeepStr Bs ((wr.drewN nq).setCell ⟨Bs, 0, none⟩ (.string ⟨(r.drop (i + 1)).toArray⟩)) W') ∨ (e = .returned (.bool false) ∧ Jx (pre ++ [r.take (i + 1)]) W') := fun nq =>
          hY pre (r.take (i + 1)) _ (hJ _ _ _ hJr (hg2 nq) ⟨_, hBr⟩) (by rw [List.length_take]; omega) ⟨linesOf (r.drop (i + 1)), by rw [hln.out, hl1]⟩
        have hnext : Hid (linesOf s = (pre ++ [r.take (i + 1)]) ++ linesOf (r.drop (i + 1))) := Lib.hid (by rw [hln.out, hl1, List.append_assoc]; rfl)
        have hs1 := fun W => run_str_to W r (i + 1) (by omega)
        have hs2 := fun W => run_str_from W r (i + 1) (by omega)
        rw [show ((i + 1 : Nat) : Int) = (i : Int) + 1 from rfl] at hs1 hs2
        have hdl : (r.drop (i + 1)).length < r.length := by rw [List.length_drop]; omega
        have d2 : decide (0 ≤ (i : Int)) = true := decide_eq_true (by omega)
        have i1 : (0 : Int) ≤ (i : Int) := by omega
        obtain ⟨x, hx⟩ : ∃ x, x = r.take (i + 1) := ⟨_, rfl⟩
        obtain ⟨y, hy⟩ : ∃ y, y = r.drop (i + 1) := ⟨_, rfl⟩
        rw [← hx] at hYY hnext hs1
        rw [← hy] at hYY hB2 hg2 hnext hs2 hdl
        clear hx hy hl1 hln
        replace hB2 := Lib.hid hB2
        replace hYY := Lib.hid hYY
        clear hg2
        gi_wp2
        refine ⟨trivial, fun h => (by cases h), (callsIn_wide.2 (hix.out _)).mono ?_⟩
        rintro e w' ⟨rfl, rfl⟩
        gi_wp2
        refine wpIn_wide.2 ?_
        refine quiet_tail 9 (by kernel_rfl) (by kernel_rfl) ?_
        simp only [List.take_succ_cons, List.take_zero, List.drop_succ_cons, List.drop_zero]
        repeat (first
          | (refine wpQuiet_run (Op.slice 9 (.tmp 12) none (some (.tmp 14)) none) rfl rfl (.string ⟨x.toArray⟩) (fun w _ => ?_) ?_
             · exact (congrArg (fun r => Result.andThen r _) (hs1 w))
             go_frame)
          | (refine wpQuiet_run (Op.slice 9 (.tmp 16) (some (.tmp 18)) none none) rfl rfl (.string ⟨y.toArray⟩) (fun w _ => ?_) ?_
             · exact (congrArg (fun r => Result.andThen r _) (hs2 w))
             go_frame)
          | go_big_quiet_step (fail))
        refine wpQuiet_nil ?_
        rintro _ ⟨nq, rfl⟩
        obtain ⟨fn, tmps, assign, body, hy, hR⟩ := hYY.out nq
        have hB3 := hB2.out nq
        have hcd : (wr.drewN nq).cell? ⟨Bs, 0, none⟩ = some (.string ⟨r.toArray⟩) := hc0
        have hzd : (wr.drewN nq).frozen? ⟨Bs, 0, none⟩ = false := hz0
        unfold strV at hy
        clear hYY hB2 hc0 hz0 hBr hJr hs1 hs2
        generalize wr.drewN nq = w3 at hy hR hB3 hcd hzd ⊢
        go_wp2
        gi_wp2
        refine ⟨fun h => (by cases h), hR.mono ?_⟩
        rintro e W3 (⟨rfl, hJ3, hk3⟩ | ⟨rfl, hJx3⟩)
        · have hB4 := hk3 _ hB3
          gi_wp2
          go_roundw
          case rel => exact ⟨pre ++ [x], y, by omega, hnext, hB4, hJ3⟩
          case measure => rw [restLen_eq hB4, hrest]; exact hdl
        · gi_wp2
          refine bodyPost_ret (results_none rfl _ _ _) rfl ?_
          exact ⟨⟨_, rfl⟩, .inr ⟨_, hJx3⟩⟩
end Go.Proofs.YtamdhaoglapnnaaGreatDoor
end

section
/- The statement 'for line := range strings.Lines(s)': a law of its own; and plain regions inside a round. -/
namespace Go.Proofs.YtamdhaoglapnnaaGreatDoor
open Go.RowKit Go.Shelf

/-! A region's plain walk serves in a round of the wide fence. -/
def noDefer (o : Oper) : Bool := match o.op with | .defer _ => false | _ => true
theorem uponIn_wide {n : Nat} {P : Program} {o : Oper} {a : Act} {K : Act → World → Prop} {Q : Exit → Act → World → Prop} (l : Nat) : ∀ r, o.upon P a K Q r → o.uponIn (Fence.wide.inRound l) n P a K Q r := by
  intro r h
  have hd : (Fence.wide.inRound l).depth.isSome = true → 1 ≤ n := fun h => by cases h
  match r with
  | .ok (.value v) w' => exact h
  | .ok .skip w' => exact h
  | .ok (.defer d) w' => exact h
  | .ok (.enter f args) w' => exact ⟨hd, callsIn_wide.2 h⟩
  | .ok (.row row args) w' =>
    refine ⟨hd, fun c cs _ => ?_⟩
    obtain ⟨v, w2, h1, h2⟩ := h c cs
    exact ⟨v, w2, h1, stepsIn_wide.2 h2⟩
  | .ok (.round ..) w' => exact h.elim
  | .halt (.panic v) w' => exact h
theorem wpListIn_wide {n l : Nat} {P : Program} {ops : Array Oper} {Q : Exit → Act → World → Prop} (hQ : ¬ LetsOut Q) : ∀ (L : List Oper) (a : Act) (w : World), L.all noDefer = true → wpList P ops Q L a w → wpListIn (Fence.wide.inRound l) n P ops Q L a w
  | [], a, w, _, h => h
  | o :: rest, a, w, hL, h => by
    simp only [List.all_cons, Bool.and_eq_true] at hL
    unfold wpList at h
    unfold wpListIn
    split at h
    · rename_i hw
      rw [if_pos hw]
      rcases h with h | ⟨_, h⟩
      · refine ⟨fun _ _ => trivial, ?_⟩
        rw [Oper.semAt_plain _ _ _ (fun c hc => by have := hL.1; simp [noDefer, hc] at this)]
        refine uponIn_wide l _ ?_
        have hrest := fun a w => wpListIn_wide (n := n) (l := l) (P := P) (ops := ops) hQ rest a w hL.2
        have hm : ∀ r, o.upon P a (wpList P ops Q rest) Q r → o.upon P a (wpListIn (Fence.wide.inRound l) n P ops Q rest) Q r := by
          intro r h
          match r with
          | .ok (.value v) w' => exact hrest _ _ h
          | .ok .skip w' => exact hrest _ _ h
          | .ok (.defer d) w' => exact hrest _ _ h
          | .ok (.enter f args) w' =>
            refine Calls.mono h fun e w2 h2 => ?_
            cases e with
            | returned v => exact hrest _ _ h2
            | panicked c => exact h2
            | outgrown => exact h2
          | .ok (.row row args) w' => exact Rows.mono h fun v w2 h2 => hrest _ _ h2
          | .ok (.round ..) w' => exact h.elim
          | .halt (.panic v) w' => exact h
        exact hm _ h
      · exact (hQ h).elim
    · rename_i hw
      rw [if_neg hw]
      exact ⟨fun _ _ => trivial, wpListIn_wide hQ rest _ _ hL.2 h⟩
theorem wpIn_region_wide {n l id : Nat} {P : Program} {L : List Oper} {Q : Exit → Act → World → Prop} {a : Act} {w : World} (hQ : ¬ LetsOut Q) (hL : L.all noDefer = true) (h : wpList P L.toArray Q L a w) :
    (Code.region id L.toArray false).wpIn (Fence.wide.inRound l) n P Q a w :=
  wpIn_region_lit (wpListIn_wide hQ L a w hL h)

/-! The statement. -/
theorem KeepStr.trans {Bs : Nat} {A B C : World} (h : KeepStr Bs A B) (k : KeepStr Bs B C) : KeepStr Bs A C := fun cs hA => k cs (h cs hA)
theorem KeepStr.put {Bs l : Nat} (W : World) (o : Obj) (h : l ≠ Bs) : KeepStr Bs W (W.putObj l o) := fun _ hB => hB.grown (grownBy_putObj' W l o) (fun e => h (by cases e; rfl))

/-- I abides what the statement's book-keeping and the iterator's own state do. -/
def Calm (B0 Bs : Nat) (I : List Str → World → Prop) : Prop := ∀ s A B row, I s A → A.grownBy B row → (∀ r, row = some r → (r = Bs ∧ ∃ cs, Blk A Bs 9 cs) ∨ (B0 ≤ r ∧ ∃ o : Obj, A.heap[r]? = some o ∧ o.isCells = false)) → I s B
theorem Calm.put {B0 Bs l : Nat} {I : List Str → World → Prop} (hI : Calm B0 Bs I) {s : List Str} {W : World} {o : Obj} (o' : Obj) (hB : B0 ≤ l) (h : I s W) (hl : W.heap[l]? = some o) (ho : o.isCells = false) : I s (W.putObj l o') :=
  hI s W _ _ h (grownBy_putObj' W l o') (fun r e => by cases e; exact .inr ⟨hB, o, hl, ho⟩)
theorem Calm.alloc {B0 Bs : Nat} {I : List Str → World → Prop} (hI : Calm B0 Bs I) {s : List Str} {W : World} (o : Obj) (h : I s W) : I s (W.alloc o) :=
  hI s W _ _ h (World.grownBy_alloc W o none) (fun r e => by cases e)

set_option maxHeartbeats 4000000 in
theorem wp_range_lines {g : Operand} {ps : Array Tmp} {assign body : Code} {Q : Exit → Act → World → Prop} {a : Act} {w : World} (Bs : Nat) (s : Str) (hs : s.length ≤ 4294967296)
    (hg : a.eval g = .func (.func 49) #[] #[.pointer (some ⟨Bs, 0, none⟩)]) (hps : ps.size = 1) (hB : Blk w Bs 9 [strV s])
    (I : List Str → World → Prop) (Ix : Code → List Str → World → Prop) (hI : Calm w.heap.size Bs I) (hIx : ∀ c, Calm w.heap.size Bs (Ix c)) (h0 : I [] w) (a₁ : Str → Act)
    (hassign : ∀ (l : Nat) (x : Str) (W : World) (K : Act → World → Prop), K (a₁ x) W →
      assign.wpIn (Fence.wide.inRound l) 0 Tryz.prog (Exit.then K (fun _ _ _ => False)) { tmps := (ps.zip #[strV x]).foldl (fun t (p, v) => t.setIfInBounds p v) a.tmps, defers := [] } W)
    (hbody : ∀ (l : Nat) (pre : List Str) (x : Str) (W : World), I pre W → x.length ≤ s.length → (∃ r, linesOf s = pre ++ x :: r) → body.wpIn (Fence.wide.inRound l) 0 Tryz.prog (ownPostK (KeepStr Bs) I Ix (pre ++ [x]) W) (a₁ x) W)
    (hdone : ∀ (D : Nat) (W : World), w.heap.size ≤ D → I (linesOf s) W → W.heap[D]? = some (.deferred (some [])) → Q .normal { a with defers := { target := .collected D, args := #[] } :: a.defers } W)
    (hstop : ∀ (D : Nat) (c : Code) (pre : List Str) (W : World), w.heap.size ≤ D → Ix c pre W → W.heap[D]? = some (.deferred (some [])) → c.wpIn Fence.wide 0 Tryz.prog Q { a with defers := { target := .collected D, args := #[] } :: a.defers } W) :
    (Code.rangeFunc g ps assign body).wp Tryz.prog Q a w := by
  refine (wpIn_wide (n := 0)).1 (wpIn_rangeFunc ?_)
  intro fn hfn
  rw [show Fence.wide.round = none from rfl]
  obtain ⟨rec, hrec⟩ : ∃ rec : LoopState → Option Code → Loop, rec = fun st pe => { state := st, pending := pe, fn, tmps := a.tmps, params := ps, assign, body, defers := w.heap.size } := ⟨_, rfl⟩
  obtain ⟨W1, hW1⟩ : ∃ W1, (w.alloc (.deferred (some []))).alloc (.loop (rec .ready none)) = W1 := ⟨_, rfl⟩
  have hBlt := hB.lt
  have hL1 : W1.heap[w.heap.size + 1]? = some (.loop (rec .ready none)) := by
    rw [← hW1]; have := World.alloc_heap_new (w.alloc (.deferred (some []))) (.loop (rec .ready none)); rwa [World.size_alloc] at this
  have hK1 : W1.heap[w.heap.size]? = some (.deferred (some [])) := by
    rw [← hW1]; exact (Below.heap_alloc _ _ _ (by simp)).trans (World.alloc_heap_new w _)
  have hI1 : I [] W1 := by rw [← hW1]; exact hI.alloc _ (hI.alloc _ h0)
  have hB1 : Blk W1 Bs 9 [strV s] := by rw [← hW1]; exact (hB.alloc _).alloc _
  refine ⟨w.heap.size + 1, [{ target := .collected w.heap.size, args := #[] }], W1, { target := .fn (.func 49) #[.pointer (some ⟨Bs, 0, none⟩)], args := #[.func (.yield (w.heap.size + 1)) #[] #[]] }, W1, 49,
    #[.func (.yield (w.heap.size + 1)) #[] #[], .pointer (some ⟨Bs, 0, none⟩)], W1, ?_, ?_, ?_, ?_, fun h => (by cases h), ?_⟩
  · rw [← hW1, hrec]; exact run_enterLoop_outer _ _ _ _ _
  · simp only [resolve, hg]
    simp [go_sem]
  · exact fun _ _ => trivial
  · simp [invoke, go_sem]
  · refine (lines_in (0 - 1) (w.heap.size + 1) Bs s hs
      (fun pre W => I pre W ∧ W.heap[w.heap.size + 1]? = some (.loop (rec .ready none)) ∧ W.heap[w.heap.size]? = some (.deferred (some [])))
      (fun pre W => ∃ c, Ix c pre W ∧ W.heap[w.heap.size + 1]? = some (.loop (rec .done (some c))) ∧ W.heap[w.heap.size]? = some (.deferred (some [])))
      W1 ?_ ?_ hB1 ⟨hI1, hL1, hK1⟩).mono ?_
    · rintro pre A B ⟨hi, hl, hk⟩ hgr hS
      have b1 := (Array.getElem?_eq_some_iff.1 hl).1
      have b2 := (Array.getElem?_eq_some_iff.1 hk).1
      refine ⟨hI _ _ _ _ hi hgr (fun r e => by cases e; exact .inl ⟨rfl, hS⟩), ?_, ?_⟩
      · exact (hgr.block _ b1 (fun e => by cases e; omega)).trans hl
      · exact (hgr.block _ b2 (fun e => by cases e; omega)).trans hk
    · -- ONE ROUND
      rintro pre x W ⟨hi, hl, hk⟩ hlen hr
      have hlt : w.heap.size + 1 < W.heap.size := (Array.getElem?_eq_some_iff.1 hl).1
      have hy := run_yield (P := Tryz.prog) (args := #[strV x]) hl (by rw [hrec]; simp [hps])
      rw [hrec] at hy
      refine ⟨fn, _, assign, body, hy, roundIn_of_wpIn hfn (hassign _ x W _ ⟨_, run_beginRound hl (by rw [hrec]), ?_⟩)⟩
      have hl2 : (W.putObj (w.heap.size + 1) (.loop { rec .ready none with state := .busy })).heap[w.heap.size + 1]? = some (.loop { rec .ready none with state := .busy }) := World.putObj_heap_same hlt
      have hk2 : (W.putObj (w.heap.size + 1) (.loop { rec .ready none with state := .busy })).heap[w.heap.size]? = some (.deferred (some [])) := (World.putObj_heap_other (by omega)).trans hk
      have hw2 : KeepStr Bs W (W.putObj (w.heap.size + 1) (.loop { rec .ready none with state := .busy })) := KeepStr.put _ _ (by omega)
      refine wpIn_mono (hbody _ pre x _ (hI.put _ (by omega) hi hl rfl) hlen hr) ?_
      have fin : ∀ (jump : Option Code) (W3 : World), KeepsOthers (W.putObj (w.heap.size + 1) (.loop { rec .ready none with state := .busy })) W3 →
          (Instr.endRound (w.heap.size + 1) jump).run Tryz.prog W3 = .ok (.bool jump.isNone) (W3.putObj (w.heap.size + 1) (.loop (rec (if jump.isNone then .ready else .done) jump))) ∧
          W3.heap[w.heap.size + 1]? = some (.loop { rec .ready none with state := .busy }) ∧
          (W3.putObj (w.heap.size + 1) (.loop (rec (if jump.isNone then .ready else .done) jump))).heap[w.heap.size + 1]? = some (.loop (rec (if jump.isNone then .ready else .done) jump)) ∧
          (W3.putObj (w.heap.size + 1) (.loop (rec (if jump.isNone then .ready else .done) jump))).heap[w.heap.size]? = some (.deferred (some [])) := fun jump W3 hk3 => by
        have hl3 := hk3.same _ _ hl2 rfl
        have := run_endRound (P := Tryz.prog) jump hl3
        rw [hrec] at this ⊢
        exact ⟨this, by rw [hrec] at hl3; exact hl3, World.putObj_heap_same (Array.getElem?_eq_some_iff.1 hl3).1, (World.putObj_heap_other (by omega)).trans (hk3.same _ _ hk2 rfl)⟩
      rintro e a3 W3 hp
      cases e with
      | normal =>
        obtain ⟨hk3, hkp3, hi3⟩ := hp
        obtain ⟨hr, hl3, hl4, hk4⟩ := fin none W3 hk3
        exact ⟨_, _, hr, .inl ⟨rfl, ⟨hI.put _ (by omega) hi3 hl3 rfl, hl4, hk4⟩, (hw2.trans hkp3).trans (KeepStr.put _ _ (by omega))⟩⟩
      | ret =>
        obtain ⟨hk3, hi3⟩ := hp
        obtain ⟨hr, hl3, hl4, hk4⟩ := fin (some .ret) W3 hk3
        exact ⟨_, _, hr, .inr ⟨rfl, .ret, (hIx _).put _ (by omega) hi3 hl3 rfl, hl4, hk4⟩⟩
      | exit id =>
        obtain ⟨hk3, hi3⟩ := hp
        obtain ⟨hr, hl3, hl4, hk4⟩ := fin (some (.exit id)) W3 hk3
        exact ⟨_, _, hr, .inr ⟨rfl, .exit id, (hIx _).put _ (by omega) hi3 hl3 rfl, hl4, hk4⟩⟩
      | goto t =>
        obtain ⟨hk3, hi3⟩ := hp
        obtain ⟨hr, hl3, hl4, hk4⟩ := fin (some (.goto t)) W3 hk3
        exact ⟨_, _, hr, .inr ⟨rfl, .goto t, (hIx _).put _ (by omega) hi3 hl3 rfl, hl4, hk4⟩⟩
      | panic ch => exact hp.elim
      | outgrown => exact hp.elim
    · rintro e W2 ⟨⟨v, rfl⟩, (⟨hi, hl, hk⟩ | ⟨pre, c, hi, hl, hk⟩)⟩
      · exact ⟨none, _, by have := run_endLoop (P := Tryz.prog) hl (by rw [hrec]; simp); rw [hrec] at this; exact this, hdone _ _ (Nat.le_refl _) (hI.put _ (by omega) hi hl rfl) ((World.putObj_heap_other (by omega)).trans hk)⟩
      · exact ⟨some c, _, by have := run_endLoop (P := Tryz.prog) hl (by rw [hrec]; simp); rw [hrec] at this; exact this, hstop _ c pre _ (Nat.le_refl _) ((hIx c).put _ (by omega) hi hl rfl) ((World.putObj_heap_other (by omega)).trans hk)⟩
/-! A function that holds such a statement. -/
theorem calls_of_wp_marks {P : Program} {f : FuncId} {fn : Func} {c : Code} {args : Array Value} {w : World} {R : Ending → World → Prop}
    (hf : P.funcs[f]? = some fn) (hb : fn.body = some c)
    (h : c.wp P (bodyPostM Fence.wide 0 P fn R) { tmps := args ++ Array.replicate (fn.ntmps - args.size) undef, defers := [] } w) : Calls P f args w R :=
  (callsIn_wide (n := 0)).1 (callsIn_of_wp_marks hf hb trivial (wpIn_wide.2 h))
theorem leaves_mark {P : Program} {fn : Func} {tmps : Array Value} {R : Ending → World → Prop} {D : Nat} {W : World} (hD : W.heap[D]? = some (.deferred (some []))) (v : Value)
    (hr : (results fn tmps).run P (W.putObj D (.deferred none)) = .ok v (W.putObj D (.deferred none))) (hR : R (.returned v) (W.putObj D (.deferred none))) :
    LeavesInM Fence.wide 0 P fn tmps R [{ target := .collected D, args := #[] }] .returning W := by
  refine ⟨by simp, .inl ⟨_, _, rfl, run_takeDeferred hD, ?_⟩⟩
  exact ⟨v, hr, hR⟩
end Go.Proofs.YtamdhaoglapnnaaGreatDoor
end
end

section
/- Joined: RfG, RfBd, RfPa. -/
section
/- What refs.Parse makes of a text, in plain words. -/
namespace Go.Proofs.YtamdhaoglapnnaaGreatDoor

def trimS (x : Str) : Str := Lib.trimSuffix x [10]
def lineOk (x : Str) : Bool := (splitW (trimS x)).tail.all pok
def lineBr (x : Str) : Br := ⟨(splitW (trimS x)).headD [], (splitW (trimS x)).tail.map pd⟩
def looseT (s : Str) : Tab := (linesOf s).map lineBr
def parseOk (s : Str) : Bool := (linesOf s).all lineOk && decide (mayE (looseT s) = 0) && decide (printS (looseT s) = s)

theorem trim_len (x : Str) : (trimS x).length ≤ x.length := by
  unfold trimS Lib.trimSuffix
  split
  · rw [List.length_take]; omega
  · exact Nat.le_refl _
theorem linesOf_cons_ne {r : Str} : linesOf r = [] → r = [] := by
  cases r with
  | nil => intro _; rfl
  | cons c r =>
    intro h
    rw [linesOf_c] at h
    split at h
    · cases h
    · split at h <;> cases h
theorem lines_len : ∀ s : Str, (linesOf s).length ≤ s.length
  | [] => Nat.le_refl _
  | c :: r => by
    have ih := lines_len r
    rw [linesOf_c]
    split
    · simp; omega
    · split
      · simp
      · rename_i l ls e
        rw [e] at ih
        simp at ih ⊢; omega
theorem lines_mem : ∀ s x, x ∈ linesOf s → x.length ≤ s.length
  | [], x, h => by cases h
  | c :: r, x, h => by
    have ih := lines_mem r
    rw [linesOf_c] at h
    split at h
    · rcases List.mem_cons.1 h with rfl | h
      · simp
      · have := ih x h; simp; omega
    · split at h
      · rcases List.mem_cons.1 h with rfl | h
        · simp
        · cases h
      · rename_i l ls e
        rw [e] at ih
        rcases List.mem_cons.1 h with rfl | h
        · have := ih l (by simp); simp; omega
        · have := ih x (by simp [h]); simp; omega
theorem split_mem : ∀ s x, x ∈ splitW s → x.length ≤ s.length
  | [], x, h => by
    rcases List.mem_cons.1 h with rfl | h
    · simp
    · cases h
  | c :: r, x, h => by
    have ih := split_mem r
    rw [splitW_c] at h
    split at h
    · rcases List.mem_cons.1 h with rfl | h
      · simp
      · have := ih x h; simp; omega
    · split at h
      · rcases List.mem_cons.1 h with rfl | h
        · simp
        · cases h
      · rename_i l ls e
        rw [e] at ih
        rcases List.mem_cons.1 h with rfl | h
        · have := ih l (by simp); simp; omega
        · have := ih x (by simp [h]); simp; omega
theorem lineBr_fit (x : Str) (hx : x.length ≤ 1073741824) : BFit (lineBr x) := by
  have h1 := trim_len x
  have h2 := split_len (trimS x)
  have h3 : (trimS x).count 32 ≤ (trimS x).length := List.count_le_length
  refine ⟨?_, ⟨?_, ?_⟩⟩
  · obtain ⟨l, ls, e⟩ := splitW_cons_ne (trimS x)
    have := split_mem (trimS x) l (by rw [e]; simp)
    show ((splitW (trimS x)).headD []).length ≤ _
    rw [e]
    simp only [List.headD_cons]; omega
  · show ((splitW (trimS x)).tail.map pd).length ≤ _
    rw [List.length_map, List.length_tail]; omega
  · intro d hd
    obtain ⟨p, _, rfl⟩ := List.mem_map.1 hd
    exact pd_length p
theorem looseT_fit (s : Str) (hs : s.length ≤ 1073741824) : TFit (looseT s) := by
  refine ⟨?_, ?_⟩
  · unfold looseT; rw [List.length_map]; have := lines_len s; omega
  · intro b hb
    obtain ⟨x, hx, rfl⟩ := List.mem_map.1 hb
    exact lineBr_fit x (Nat.le_trans (lines_mem s x hx) hs)
end Go.Proofs.YtamdhaoglapnnaaGreatDoor
end

section
/- A slice of one digest, laid out; stores of digests in boxes. -/
namespace Go.Proofs.YtamdhaoglapnnaaGreatDoor
open Go.RowKit
set_option maxRecDepth 100000 in
set_option maxHeartbeats 4000000 in
theorem build32 (a0 a1 a2 a3 a4 a5 a6 a7 a8 a9 a10 a11 a12 a13 a14 a15 a16 a17 a18 a19 a20 a21 a22 a23 a24 a25 a26 a27 a28 a29 a30 a31 : Value) (w : World) : (Instr.buildSlice 108 1 #[(0, .agg #[a0, a1, a2, a3, a4, a5, a6, a7, a8, a9, a10, a11, a12, a13, a14, a15, a16, a17, a18, a19, a20, a21, a22, a23, a24, a25, a26, a27, a28, a29, a30, a31])]).run Tryz.prog w = .ok (.slice (some ⟨w.heap.size, 0, none⟩) 1 1) (w.alloc (.cells #[a0, a1, a2, a3, a4, a5, a6, a7, a8, a9, a10, a11, a12, a13, a14, a15, a16, a17, a18, a19, a20, a21, a22, a23, a24, a25, a26, a27, a28, a29, a30, a31] 115)) := by kernel_rfl
theorem build_dig (l : List Value) (h : l.length = 32) (w : World) : (Instr.buildSlice 108 1 #[(0, .agg l.toArray)]).run Tryz.prog w = .ok (.slice (some ⟨w.heap.size, 0, none⟩) 1 1) (w.alloc (.cells l.toArray 115)) := by
  obtain ⟨a0, l, rfl⟩ := List.exists_cons_of_length_eq_add_one h
  replace h := Nat.succ.inj h
  obtain ⟨a1, l, rfl⟩ := List.exists_cons_of_length_eq_add_one h
  replace h := Nat.succ.inj h
  obtain ⟨a2, l, rfl⟩ := List.exists_cons_of_length_eq_add_one h
  replace h := Nat.succ.inj h
  obtain ⟨a3, l, rfl⟩ := List.exists_cons_of_length_eq_add_one h
  replace h := Nat.succ.inj h
  obtain ⟨a4, l, rfl⟩ := List.exists_cons_of_length_eq_add_one h
  replace h := Nat.succ.inj h
  obtain ⟨a5, l, rfl⟩ := List.exists_cons_of_length_eq_add_one h
  replace h := Nat.succ.inj h
  obtain ⟨a6, l, rfl⟩ := List.exists_cons_of_length_eq_add_one h
  replace h := Nat.succ.inj h
  obtain ⟨a7, l, rfl⟩ := List.exists_cons_of_length_eq_add_one h
  replace h := Nat.succ.inj h
  obtain ⟨a8, l, rfl⟩ := List.exists_cons_of_length_eq_add_one h
  replace h := Nat.succ.inj h
  obtain ⟨a9, l, rfl⟩ := List.exists_cons_of_length_eq_add_one h
  replace h := Nat.succ.inj h
  obtain ⟨a10, l, rfl⟩ := List.exists_cons_of_length_eq_add_one h
  replace h := Nat.succ.inj h
  obtain ⟨a11, l, rfl⟩ := List.exists_cons_of_length_eq_add_one h
  replace h := Nat.succ.inj h
  obtain ⟨a12, l, rfl⟩ := List.exists_cons_of_length_eq_add_one h
  replace h := Nat.succ.inj h
  obtain ⟨a13, l, rfl⟩ := List.exists_cons_of_length_eq_add_one h
  replace h := Nat.succ.inj h
  obtain ⟨a14, l, rfl⟩ := List.exists_cons_of_length_eq_add_one h
  replace h := Nat.succ.inj h
  obtain ⟨a15, l, rfl⟩ := List.exists_cons_of_length_eq_add_one h
  replace h := Nat.succ.inj h
  obtain ⟨a16, l, rfl⟩ := List.exists_cons_of_length_eq_add_one h
  replace h := Nat.succ.inj h
  obtain ⟨a17, l, rfl⟩ := List.exists_cons_of_length_eq_add_one h
  replace h := Nat.succ.inj h
  obtain ⟨a18, l, rfl⟩ := List.exists_cons_of_length_eq_add_one h
  replace h := Nat.succ.inj h
  obtain ⟨a19, l, rfl⟩ := List.exists_cons_of_length_eq_add_one h
  replace h := Nat.succ.inj h
  obtain ⟨a20, l, rfl⟩ := List.exists_cons_of_length_eq_add_one h
  replace h := Nat.succ.inj h
  obtain ⟨a21, l, rfl⟩ := List.exists_cons_of_length_eq_add_one h
  replace h := Nat.succ.inj h
  obtain ⟨a22, l, rfl⟩ := List.exists_cons_of_length_eq_add_one h
  replace h := Nat.succ.inj h
  obtain ⟨a23, l, rfl⟩ := List.exists_cons_of_length_eq_add_one h
  replace h := Nat.succ.inj h
  obtain ⟨a24, l, rfl⟩ := List.exists_cons_of_length_eq_add_one h
  replace h := Nat.succ.inj h
  obtain ⟨a25, l, rfl⟩ := List.exists_cons_of_length_eq_add_one h
  replace h := Nat.succ.inj h
  obtain ⟨a26, l, rfl⟩ := List.exists_cons_of_length_eq_add_one h
  replace h := Nat.succ.inj h
  obtain ⟨a27, l, rfl⟩ := List.exists_cons_of_length_eq_add_one h
  replace h := Nat.succ.inj h
  obtain ⟨a28, l, rfl⟩ := List.exists_cons_of_length_eq_add_one h
  replace h := Nat.succ.inj h
  obtain ⟨a29, l, rfl⟩ := List.exists_cons_of_length_eq_add_one h
  replace h := Nat.succ.inj h
  obtain ⟨a30, l, rfl⟩ := List.exists_cons_of_length_eq_add_one h
  replace h := Nat.succ.inj h
  obtain ⟨a31, l, rfl⟩ := List.exists_cons_of_length_eq_add_one h
  replace h := Nat.succ.inj h
  obtain rfl := List.eq_nil_of_length_eq_zero h
  exact build32 _ _ _ _ _ _ _ _ _ _ _ _ _ _ _ _ _ _ _ _ _ _ _ _ _ _ _ _ _ _ _ _ w
theorem wpList_build_dig {ops : Array Oper} {rest : List Oper} {o : Oper} {a : Act} {w : World} {Q : Exit → Act → World → Prop} (x : Operand) (ho : o.op = .buildSlice 108 1 #[(0, x)]) (hgd : o.guard = none) (l : List Value) (hl : l.length = 32)
    (hx : a.eval x = .agg l.toArray)
    (h : wpList Tryz.prog ops Q rest (a.put o.dst (.slice (some ⟨w.heap.size, 0, none⟩) 1 1)) (w.alloc (.cells l.toArray 115))) : wpList Tryz.prog ops Q (o :: rest) a w := by
  refine wpList_plain hgd fun K hK => ?_
  unfold Oper.wp
  have e : (#[(0, x)] : Array (Nat × Operand)).map (fun (i, x) => (i, a.eval x)) = #[(0, .agg l.toArray)] := by simp [hx]
  have hr : (execOp a.eval o).run Tryz.prog w = .ok (.value (.slice (some ⟨w.heap.size, 0, none⟩) 1 1)) (w.alloc (.cells l.toArray 115)) := by
    simp only [execOp, ho, e, Sem.run_bind, build_dig l hl, Result.andThen_ok, Sem.run_pure]
  rw [hr]
  exact hK _ _ h
/-! A list of operations in a round, by the plain walk. -/
def NoOut (Q : Exit → Act → World → Prop) (e : Exit) (a : Act) (w : World) : Prop := e ≠ .outgrown ∧ Q e a w
theorem NoOut.normal {Q : Exit → Act → World → Prop} {a : Act} {w : World} (h : Q .normal a w) : NoOut Q .normal a w := ⟨by simp, h⟩
theorem NoOut.out {Q : Exit → Act → World → Prop} : ¬ LetsOut (NoOut Q) := fun ⟨_, _, h, _⟩ => h rfl
theorem uponIn_mono {F : Fence} {n : Nat} {P : Program} {o : Oper} {a : Act} {K K' : Act → World → Prop} {Q Q' : Exit → Act → World → Prop} (hK : ∀ a w, K a w → K' a w) (hQ : ∀ e a w, Q e a w → Q' e a w) : ∀ r, o.uponIn F n P a K Q r → o.uponIn F n P a K' Q' r := by
  have hL : LetsOut Q → LetsOut Q' := fun ⟨a, w, h⟩ => ⟨a, w, hQ _ _ _ h⟩
  intro r h
  match r with
  | .ok (.value v) w' => exact hK _ _ h
  | .ok .skip w' => exact hK _ _ h
  | .ok (.defer d) w' => exact hK _ _ h
  | .ok (.enter f args) w' =>
    refine ⟨h.1, h.2.mono fun e w2 h2 => ?_⟩
    cases e with
    | returned v => exact hK _ _ h2
    | panicked c => exact hQ _ _ _ h2
    | outgrown => exact hL h2
  | .ok (.row row args) w' => exact ⟨h.1, h.2.mono fun v w2 h2 => hK _ _ h2⟩
  | .ok (.round l f tmps assign body) w' =>
    refine ⟨h.1, h.2.mono fun e w2 h2 => ?_⟩
    cases e with
    | returned v => exact hK _ _ h2
    | panicked c => exact hQ _ _ _ h2
    | outgrown => exact hL h2
  | .halt (.panic v) w' => exact hQ _ _ _ h
theorem wpListIn_mono {F : Fence} {n : Nat} {P : Program} {ops : Array Oper} {Q Q' : Exit → Act → World → Prop} (hQ : ∀ e a w, Q e a w → Q' e a w) : ∀ (L : List Oper) (a : Act) (w : World), wpListIn F n P ops Q L a w → wpListIn F n P ops Q' L a w
  | [], _, _, h => hQ _ _ _ h
  | o :: rest, a, w, h => by
    unfold wpListIn at h ⊢
    split at h
    · rename_i hw
      rw [if_pos hw]
      exact ⟨h.1, uponIn_mono (fun a w => wpListIn_mono hQ rest a w) hQ _ h.2⟩
    · rename_i hw
      rw [if_neg hw]
      exact ⟨h.1, wpListIn_mono hQ rest _ _ h.2⟩
theorem wpListIn_out {n l : Nat} {P : Program} {ops : Array Oper} {Q : Exit → Act → World → Prop} {L : List Oper} {a : Act} {w : World} (hL : L.all noDefer = true) (h : wpList P ops (NoOut Q) L a w) : wpListIn (Fence.wide.inRound l) n P ops Q L a w :=
  wpListIn_mono (fun _ _ _ h => h.2) L a w (wpListIn_wide NoOut.out L a w hL h)
end Go.Proofs.YtamdhaoglapnnaaGreatDoor
end

section
/- The walk of refs.Parse. -/
namespace Go.Proofs.YtamdhaoglapnnaaGreatDoor
open Go.RowKit Go.Shelf
attribute [local go_sem] Oper.semAt_some

set_option maxRecDepth 100000 in
set_option maxHeartbeats 4000000 in
theorem linesF_any (s : Str) (w : World) :
    Calls Tryz.prog 28 #[strV s] w fun e w' => e = .returned (.func (.func 49) #[] #[.pointer (some ⟨w.heap.size, 0, none⟩)]) ∧ w' = w.alloc (.cells #[strV s] 9) := by
  go_enter Tryz.func28, Tryz.ntmps28
  go_wp2
  go_ret
  exact ⟨rfl, rfl⟩
def ParsedTo (w : World) (s : Str) (e : Ending) (w' : World) : Prop :=
  Below w.heap.size w w' ∧ if parseOk s = true then ∃ v, e = .returned (.tuple #[v, .int .i64 0]) ∧ OwnTab w' w.heap.size v (looseT s) else e = .returned (.tuple #[.slice none 0 0, .int .i64 7])
/-- What holds between two lines. -/
structure PI (w : World) (pre : List Str) (W : World) : Prop where
  ok : pre.all lineOk = true
  bel : Below w.heap.size w W
  tab : ∃ v, Blk W w.heap.size 110 [v] ∧ OwnTab W w.heap.size v (pre.map lineBr)
structure PX (w : World) (s : Str) (W : World) : Prop where
  bad : parseOk s = false
  ne : s ≠ []
  bel : Below w.heap.size w W
  tab : Blk W w.heap.size 110 [.slice none 0 0]
/-- A table of one's own is kept where nothing of its kind is touched. -/
theorem OwnTab.calm {A B : World} {base : Nat} {v : Value} {T : Tab} {row : Option Nat} (h : OwnTab A base v T) (hg : A.grownBy B row) (hr : ∀ r, row = some r → ∀ t cs, Blk A r t cs → t ≠ 138 ∧ t ≠ 115) : OwnTab B base v T := by
  obtain ⟨vs, hl, ho, hh⟩ := h
  refine ⟨vs, hl, ⟨ho.1, ?_⟩, fun k b u h1 h2 => (hh k b u h1 h2).keep (fun b cs _ hB => hB.grown hg (fun e => (hr _ e.symm _ _ hB).2 rfl))⟩
  rcases ho.2 with e | ⟨g, cap, cur, rfl, hb, hg', hc⟩
  · exact .inl e
  · have hB : Blk A g 138 cur.toList := by unfold Blk; simpa using hg'
    exact .inr ⟨g, cap, cur, rfl, hb, (hg.block _ hB.lt (fun e => (hr _ e.symm _ _ hB).1 rfl)).trans hg', hc⟩
theorem not_cells {A : World} {r : Nat} {t : TypeId} {cs : List Value} (h : ∃ o : Obj, A.heap[r]? = some o ∧ o.isCells = false) : ¬ Blk A r t cs := fun hB => by
  obtain ⟨o, ho, hc⟩ := h
  unfold Blk at hB
  rw [hB] at ho
  cases ho; cases hc
theorem Blk.keepRow {A B : World} {g : Nat} {t : TypeId} {cs : List Value} {base : Nat} {T : TypeId} {sz n : Nat} {v : Value} {xs : List Value} (hB : Blk A g t cs) (ho : A.ownsRow base T sz v n xs) (hT : T ≠ t) (hg : A.grownBy B v.ownBlock) : Blk B g t cs :=
  hB.grown hg (fun e => by
    rcases ho.2 with ⟨rfl, _⟩ | ⟨g', cap, cur, rfl, _, hg', _⟩
    · cases e
    · have e' : g = g' := by simpa [Value.ownBlock] using e
      subst e'
      unfold Blk at hB
      rw [hg'] at hB
      injection hB with hB
      injection hB with _ ht
      exact hT ht)
theorem own_keepCell {A : World} {g i : Nat} {u : Value} {t : TypeId} {cs : List Value} {base : Nat} {T : TypeId} {sz n : Nat} {v : Value} {xs : List Value} (ho : A.ownsRow base T sz v n xs) (hB : Blk A g t cs) (hT : T ≠ t) : (A.setCell ⟨g, i, none⟩ u).ownsRow base T sz v n xs :=
  own_touch ho (Touch.setCell (L := [g]) u (by simp)) (fun b hb hm => by
    simp only [List.mem_singleton] at hm
    subst hm
    rcases ho.2 with ⟨rfl, _⟩ | ⟨g', cap, cur, rfl, _, hg', _⟩
    · cases hb
    · have e' : g' = b := by simpa [Value.ownBlock] using hb
      subst e'
      unfold Blk at hB
      rw [hg'] at hB
      injection hB with hB
      injection hB with _ ht
      exact hT ht)
theorem own_blk {A : World} {base : Nat} {T : TypeId} {sz n : Nat} {v : Value} {xs : List Value} (ho : A.ownsRow base T sz v n xs) : ∀ r, v.ownBlock = some r → ∃ cs, Blk A r T cs := by
  intro r e
  rcases ho.2 with ⟨rfl, _⟩ | ⟨g', cap, cur, rfl, _, hg', _⟩
  · cases e
  · have e' : g' = r := by simpa [Value.ownBlock] using e
    subst e'
    exact ⟨cur.toList, by unfold Blk; simpa using hg'⟩
theorem Blk.unique {A : World} {g : Nat} {t t' : TypeId} {cs cs' : List Value} (h : Blk A g t cs) (h' : Blk A g t' cs') : t = t' := by
  unfold Blk at h h'
  rw [h] at h'
  injection h' with h'
  injection h' with _ ht
theorem keeps_two {W Wf : World} {bl : Nat} {row : Option Nat} {t : TypeId} {cs : List Value} (hB : Blk W bl t cs) (hsz : W.heap.size ≤ Wf.heap.size) (hrow : ∀ r, row = some r → ∃ t cs, Blk W r t cs)
    (h : ∀ k, k < W.heap.size → k ≠ bl → some k ≠ row → Wf.heap[k]? = W.heap[k]?) : KeepsOthers W Wf := by
  refine ⟨hsz, fun k o hk ho => ?_⟩
  have hlt := (Array.getElem?_eq_some_iff.1 hk).1
  refine (h k hlt (fun e => ?_) (fun e => ?_)).trans hk
  · subst e; exact not_cells ⟨o, hk, ho⟩ hB
  · obtain ⟨t', cs', hr⟩ := hrow _ e.symm
    exact not_cells ⟨o, hk, ho⟩ hr
theorem setCell_at (w : World) (g i : Nat) (u : Value) {k : Nat} (h : k ≠ g) : (w.setCell ⟨g, i, none⟩ u).heap[k]? = w.heap[k]? := Below.heap_setCell w ⟨g, i, none⟩ u k h
theorem kept_blk {A B : World} {row : Option Nat} {B0 Bs g : Nat} {t : TypeId} {cs : List Value} (ht : t ≠ 9) (hB : Blk A g t cs) (hg : A.grownBy B row) (hr : ∀ r, row = some r → (r = Bs ∧ ∃ cs, Blk A Bs 9 cs) ∨ (B0 ≤ r ∧ ∃ o : Obj, A.heap[r]? = some o ∧ o.isCells = false)) : Blk B g t cs :=
  hB.grown hg (fun e => by
    rcases hr _ e.symm with ⟨rfl, cs', hS⟩ | ⟨_, h⟩
    · exact hB.ne_ hS ht rfl
    · exact not_cells h hB)
theorem kept_own {A B : World} {row : Option Nat} {B0 Bs : Nat} {base : Nat} {v : Value} {T : Tab} (h : OwnTab A base v T) (hg : A.grownBy B row) (hr : ∀ r, row = some r → (r = Bs ∧ ∃ cs, Blk A Bs 9 cs) ∨ (B0 ≤ r ∧ ∃ o : Obj, A.heap[r]? = some o ∧ o.isCells = false)) : OwnTab B base v T :=
  h.calm hg (fun r e t cs hB => by
    rcases hr r e with ⟨rfl, cs', hS⟩ | ⟨_, h⟩
    · have : t = 9 := by
        by_cases ht : t = 9
        · exact ht
        · exact absurd rfl (hB.ne_ hS ht)
      subst this
      exact ⟨by decide, by decide⟩
    · exact absurd hB (not_cells h))
/-- Below the beginning nothing is touched. -/
theorem kept_below {w A B : World} {row : Option Nat} {B0 Bs : Nat} (hb : Below w.heap.size w A) (hBs : w.heap.size ≤ Bs) (hB0 : w.heap.size ≤ B0) (hg : A.grownBy B row) (hr : ∀ r, row = some r → (r = Bs ∧ ∃ cs, Blk A Bs 9 cs) ∨ (B0 ≤ r ∧ ∃ o : Obj, A.heap[r]? = some o ∧ o.isCells = false)) : Below w.heap.size w B :=
  hb.grown hg hb.size (fun k e => by
    rcases hr _ e with ⟨rfl, _⟩ | ⟨h, _⟩
    · exact hBs
    · omega)
theorem PI.calm {w : World} {B0 Bs : Nat} (hBs : w.heap.size ≤ Bs) (hB0 : w.heap.size ≤ B0) : Calm B0 Bs (PI w) := by
  rintro s A B row ⟨h1, h2, v, h3, h4⟩ hg hr
  exact ⟨h1, kept_below h2 hBs hB0 hg hr, v, kept_blk (by decide) h3 hg hr, kept_own h4 hg hr⟩
theorem PX.calm {w : World} {B0 Bs : Nat} {t : Str} {c : Code} (hBs : w.heap.size ≤ Bs) (hB0 : w.heap.size ≤ B0) : Calm B0 Bs (fun _ W => c = .exit 0 ∧ PX w t W) := by
  rintro s A B row ⟨h0, h1, h2, h3, h4⟩ hg hr
  exact ⟨h0, h1, h2, kept_below h3 hBs hB0 hg hr, kept_blk (by decide) h4 hg hr⟩
set_option maxRecDepth 100000 in
set_option maxHeartbeats 4000000 in
theorem fparse_any (s : Str) (w : World) (hs : s.length ≤ 1073741824) :
    Calls Tryz.prog 86 #[strV s] w (ParsedTo w s) := by
  have hlf : Hid (∀ w, Calls Tryz.prog 28 #[.string ⟨s.toArray⟩] w fun e w' => e = .returned (.func (.func 49) #[] #[.pointer (some ⟨w.heap.size, 0, none⟩)]) ∧ w' = w.alloc (.cells #[.string ⟨s.toArray⟩] 9)) := Lib.hid (linesF_any s)
  have hfr := (Below.refl w.heap.size w).alloc (Nat.le_refl _) (Obj.cells #[Value.slice none 0 0] 110)
  have hB1 : Blk (w.alloc (Obj.cells #[Value.slice none 0 0] 110)) w.heap.size 110 [.slice none 0 0] := Blk.new_at rfl
  have hsz1 : (w.alloc (Obj.cells #[Value.slice none 0 0] 110)).heap.size = w.heap.size + 1 := by simp
  have hsl : (⟨s.toArray⟩ : ByteArray).size = s.length := strLn s
  unfold strV
  refine calls_of_wp_marks Tryz.func86 rfl ?_
  simp only [Tryz.ntmps86, List.size_toArray, List.length_cons, List.length_nil, Nat.reduceAdd, Nat.reduceSub, Array.replicate_succ, Array.replicate_zero, List.push_toArray, List.append_toArray, List.nil_append, List.cons_append]
  go_wp2
  go_step3
  go_wp2
  go_step3
  go_wp2_with (first
    | (go_at_call 28; (with_reducible refine (hlf.out _).mono ?_); rintro e w2 ⟨rfl, rfl⟩))
  have hB2 := hB1.alloc (Obj.cells #[Value.string ⟨s.toArray⟩] 9)
  have hS2 : Blk ((w.alloc (Obj.cells #[Value.slice none 0 0] 110)).alloc (Obj.cells #[Value.string ⟨s.toArray⟩] 9)) (w.heap.size + 1) 9 [strV s] := Blk.new_at (by simp)
  have hb2 := hfr.alloc (by simp) (Obj.cells #[Value.string ⟨s.toArray⟩] 9)
  have hs32 : s.length ≤ 4294967296 := by omega
  clear hB1 hfr hlf
  generalize hW : ((w.alloc (Obj.cells #[Value.slice none 0 0] 110)).alloc (Obj.cells #[Value.string ⟨s.toArray⟩] 9)) = w2 at hB2 hS2 hb2 ⊢
  have hsz2 : w.heap.size ≤ w2.heap.size := hb2.size
  clear hW hsz1
  refine wp_range_lines (w.heap.size + 1) s hs32 rfl rfl hS2 (PI w) (fun c _ W => c = .exit 0 ∧ PX w s W) (PI.calm (by omega) hsz2) (fun _ => PX.calm (by omega) hsz2) ⟨rfl, hb2, _, hB2, OwnTab.nil⟩ (fun x => ?a1) ?assign ?body ?done ?stop
  case a1 => exact { tmps := #[Value.string ⟨s.toArray⟩, undef, Value.slice none 0 0, Value.int IntKind.i64 0, Value.pointer (some ⟨w.heap.size, 0, none⟩), strV x, undef, undef, undef, undef, undef, undef,
              undef, undef, Value.string ⟨s.toArray⟩, Value.func (.func 49) #[] #[.pointer (some ⟨w.heap.size + 1, 0, none⟩)], strV x, undef, undef, undef, undef, undef, undef, undef,
              undef, undef, undef, undef, undef, undef, undef, undef, undef, undef, undef, undef, undef, undef, undef, undef, undef, undef,
              undef, undef, undef, undef, undef, undef, undef, undef, undef, undef, undef, undef, undef, undef, undef, undef, undef, undef, undef, undef], defers := [] }
  case assign =>
    intro l x W K hK
    unfold strV
    gi_wp2
    unfold strV at hK
    exact hK
  case body =>
    rintro l pre x W ⟨hok, hb, v, hB, hO⟩ hxl ⟨rst, hlo⟩
    dsimp only
    clear hB2 hS2 hb2
    have hx32 : x.length ≤ 9223372036854775807 := by omega
    have htl := trim_len x
    obtain ⟨t, ht⟩ : ∃ t, t = trimS x := ⟨_, rfl⟩
    have htr : Hid (Calls Tryz.prog 29 #[.string ⟨x.toArray⟩, .string ⟨#[10]⟩] W fun e w' => e = .returned (.string ⟨t.toArray⟩) ∧ w' = W) := Lib.hid (by
      rw [ht]; exact Tryz.strings_TrimSuffix ⟨x.toArray⟩ ⟨#[10]⟩ W (by rw [strLn]; omega))
    rw [← ht] at htl
    have hsp := Lib.hid (split_any t W (by omega))
    obtain ⟨n0, ns, hn0⟩ := splitW_cons_ne t
    rw [hn0] at hsp
    have hspl := split_len t
    have hspc : t.count 32 ≤ t.length := List.count_le_length
    have hspm : ∀ p ∈ n0 :: ns, p.length ≤ t.length := fun p hp => split_mem t p (by rw [hn0]; exact hp)
    rw [hn0] at hspl
    simp only [List.length_cons] at hspl
    replace ht := Lib.hid ht
    replace hn0 := Lib.hid hn0
    replace hspm := Lib.hid hspm
    replace hlo := Lib.hid hlo
    replace hO := Lib.hid hO
    unfold strV
    gi_wp2
    refine ⟨trivial, rfl, (callsIn_wide.2 htr.out).mono ?_⟩
    rintro e w' ⟨rfl, rfl⟩
    gi_wp2
    refine ⟨trivial, rfl, (callsIn_wide.2 hsp.out).mono ?_⟩
    rintro e W1 ⟨g, rfl, hG, hgl, hb1⟩
    have hc0 := hG.cell 0
    rw [List.map_cons, List.getElem?_cons_zero] at hc0
    unfold strV at hc0
    simp only [List.length_cons]
    have i0 : (0 : Int) < ((ns.length + 1 : Nat) : Int) := by omega
    obtain ⟨N, hN⟩ : ∃ N, N = ns.length := ⟨_, rfl⟩
    rw [← hN] at hspl i0 ⊢
    have hN32 : N ≤ 1073741824 := by omega
    replace hspl := Lib.hid hspl
    replace hN := Lib.hid hN
    have hB1 := hB.below hb1 hB.lt
    have hlt1 : w.heap.size < W1.heap.size := hB1.lt
    have hX0 : Blk (W1.alloc (.cells #[Value.string ⟨n0.toArray⟩, .slice none 0 0] 138)) W1.heap.size 138 [.string ⟨n0.toArray⟩, .slice none 0 0] := Blk.new_at rfl
    have hbx0 : Below W1.heap.size W1 (W1.alloc (.cells #[Value.string ⟨n0.toArray⟩, .slice none 0 0] 138)) := (Below.refl _ _).alloc (Nat.le_refl _) _
    have hpar := Lib.hid parse_any
    have hzz := (zero_of_info zeros32).1
    clear htr hsp
    by_cases hN0 : N = 0
    · obtain rfl : N = 0 := hN0
      have hall : (ns.take 0).all pok = true := rfl
      have hrow0 : (W1.alloc (.cells #[Value.string ⟨n0.toArray⟩, .slice none 0 0] 138)).ownsRow W1.heap.size 115 32 (.slice none 0 0) 0 (hCells ((ns.take 0).map pd)) := ⟨rfl, .inl ⟨rfl, rfl⟩⟩
      gi_wp2
      gi_loopw [27] (fun i wr => i = .int .i64 0 ∧ Blk wr W1.heap.size 138 [.string ⟨n0.toArray⟩, .slice none 0 0] ∧ wr.ownsRow W1.heap.size 115 32 (.slice none 0 0) 0 (hCells ((ns.take 0).map pd)) ∧ Below W1.heap.size W1 wr) (fun _ _ => 0)
      case atStart => exact ⟨rfl, hX0, hrow0, hbx0⟩
      case round =>
        obtain ⟨rfl, hX, hrow, hbw⟩ := hrel
        clear hrow0
        have hB4w := hB1.below hbw hlt1
        have hOw := hO.out.keepB (hb1.trans (hbw.mono hb1.size))
        have hbA : Below w'.heap.size w' wr := hb1.trans (hbw.mono hb1.size)
        have hpl : (pre.map lineBr).length ≤ 1073741824 := by
          have h1 := lines_len s
          rw [hlo.out] at h1
          simp only [List.length_append, List.length_cons] at h1
          rw [List.length_map]; omega
        obtain ⟨T, hT⟩ : ∃ T, T = pre.map lineBr := ⟨_, rfl⟩
        rw [← hT] at hOw hpl
        obtain ⟨TA, tc, rfl, _⟩ := hOw.form
        obtain ⟨vs, hvl, hrt, hht⟩ := hOw
        replace hT := Lib.hid hT
        obtain ⟨m, hm⟩ : ∃ m, m = T.length := ⟨_, rfl⟩
        rw [← hm] at hrt hpl hvl hB4w hB hB1
        replace hm := Lib.hid hm
        replace hrt := Lib.hid hrt
        replace hht := Lib.hid hht
        replace hrow := Lib.hid hrow
        replace hvl := Lib.hid hvl
        have hc4 := hB4w.cell 0
        have d0 := hX.cell 0
        have d1 := hX.cell 1
        have hmk : m + 1 ≤ maxLen := by unfold maxLen; omega
        have hbw0 : Below w.heap.size w wr := hb.trans (hbA.mono hb.size)
        have hszw := hbw0.size
        have hone : ∀ u ∈ [Value.string ⟨n0.toArray⟩, .slice none 0 0], u.oneCell' = true := by simp [Value.oneCell']
        clear hX0 hbx0 hc0
        gi_wp2_with (first
          | (refine wpListIn_out (by rfl) ?_
             go_wp2_with (first
               | (at_builtin; refine wpList_append_rd _ rfl (.tmp 45) (.tmp 47) 110 rfl w.heap.size 138 (.agg zeroBr.toArray) 2 40 Tryz.underlying110 brInfo (.slice TA m tc) m (tCells T vs) rfl (hrt.out.alloc _) (fun _ => True) (some ⟨wr.heap.size, 0, none⟩) 1 1 [.string ⟨n0.toArray⟩, .slice none 0 0] rfl rfl (Rd.of_blk (cs := [.string ⟨n0.toArray⟩, .slice none 0 0]) (r := []) (Blk.new_at rfl) rfl trivial) hone hmk (by omega) (by simp; omega) ?_; intro v' W7 hrow7 hg7 hv7; have hB7 := (hB4w.alloc (.cells #[.string ⟨n0.toArray⟩, .slice none 0 0] 138)).keepRow (hrt.out.alloc _) (by decide) hg7; replace hrow7 := Lib.hid hrow7; replace hg7 := Lib.hid hg7; clear hv7; obtain ⟨VA, vc, rfl, _, _⟩ := own_form hrow7.out; have hd7 := hB7.cell 0; have hf7 := hB7.frozen 0; go_frame))
             refine NoOut.normal ?_))
        have hge := setCell_grown W7 w.heap.size 0 (.slice VA (m + 1) vc)
        have hBl := hB7.set_ 0 (.slice VA (m + 1) vc)
        obtain ⟨vs0, _, hro0, _⟩ := hO.out
        have hrowb := own_blk hro0
        have hoA := hrt.out.alloc (.cells #[.string ⟨n0.toArray⟩, .slice none 0 0] 138)
        have hba : Below wr.heap.size wr (wr.alloc (.cells #[.string ⟨n0.toArray⟩, .slice none 0 0] 138)) := (Below.refl _ _).alloc (Nat.le_refl _) _
        have hszf : wr.heap.size ≤ W7.heap.size := Nat.le_trans hba.size hg7.out.size
        have hsame : ∀ j, j < w'.heap.size → j ≠ w.heap.size → some j ≠ (Value.slice TA m tc).ownBlock → (W7.setCell ⟨w.heap.size, 0, none⟩ (.slice VA (m + 1) vc)).heap[j]? = w'.heap[j]? := fun j h1 h2 h3 => by
          have hj := Nat.lt_of_lt_of_le h1 hbA.size
          exact (setCell_at W7 w.heap.size 0 _ h2).trans ((hg7.out.block j (Nat.lt_of_lt_of_le hj hba.size) h3).trans ((hba.block j hj).trans (hbA.block j h1)))
        have hlb : lineBr x = ⟨n0, ns.map pd⟩ := by unfold lineBr; rw [← ht.out, hn0.out]; rfl
        have hrow2 : wr.ownsRow W1.heap.size 115 32 (.slice none 0 0) (ns.map pd).length (hCells (ns.map pd)) := by
          have := hrow.out
          have e : ns.take 0 = ns := by rw [hN.out, List.take_length]
          rw [e] at this
          rw [List.length_map, ← hN.out]; exact this
        have hu := ((((hd_of_own hrow2).lower (Nat.le_trans hb.size hb1.size)).keepB hba).keepRow hoA (by decide) hg7.out)
        have hbf : Below w.heap.size w W7 := hbw0.trans ((hba.mono hszw).trans (own_below hoA hg7.out (Nat.le_trans hszw hba.size)))
        refine ⟨keeps_two (row := (Value.slice TA m tc).ownBlock) (hB) (Nat.le_trans hbA.size (Nat.le_trans hszf hge.size)) (fun r e => by obtain ⟨cs, h⟩ := hrowb r (by rw [← hm.out]; exact e); exact ⟨_, cs, h⟩) hsame, ?_, ?_, ?_, _, hBl, ?_⟩
        · intro cs hS
          refine (hsame _ hS.lt (fun e => ?_) (fun e => ?_)).trans hS
          · exact (hB).ne_ (by rw [e] at hS; exact hS) (by decide) rfl
          · obtain ⟨cs', h⟩ := hrowb _ (by rw [← hm.out]; exact e.symm)
            exact h.ne_ hS (by decide) rfl
        · rw [List.all_append, hok]
          simp only [List.all_cons, List.all_nil, Bool.and_true, Bool.true_and]
          unfold lineOk
          rw [← ht.out, hn0.out]
          show ns.all pok = true
          rw [← List.take_length (l := ns), ← hN.out]; exact hall
        · exact hbf.grown hge hbf.size (fun j e => by cases e; exact Nat.le_refl _)
        · have := OwnTab.snoc (base := w.heap.size) (T := T) (b := lineBr x) (vs := vs) (by rw [hvl.out, hm.out]) (fun j b u h1 h2 => ((hht.out j b u h1 h2).keepB hba).keepRow hoA (by decide) hg7.out) (u := .slice none 0 0) (by rw [hlb]; exact hu) (by rw [hlb, ← hm.out]; exact hrow7.out)
          have hf := this.calm hge (fun r e t cs hB => by
            cases e
            have := hB.unique hB7
            subst this
            exact ⟨by decide, by decide⟩)
          rw [List.map_append, List.map_cons, List.map_nil, ← hT.out]
          exact hf
    · have i3 : ¬ (N + 1 = 1) := by omega
      gi_wp2
      gi_loopw [27] (fun i wr => ∃ (k : Nat) (hv : Value), k ≤ N ∧ i = .int .i64 k ∧ Blk wr W1.heap.size 138 [.string ⟨n0.toArray⟩, hv] ∧ wr.ownsRow W1.heap.size 115 32 hv k (hCells ((ns.take k).map pd)) ∧ Below W1.heap.size W1 wr ∧ (ns.take k).all pok = true) (fun i _ => N - (intOf i).toNat)
      case atStart => exact ⟨0, _, Nat.zero_le _, rfl, hX0, ⟨rfl, .inl ⟨rfl, rfl⟩⟩, hbx0, rfl⟩
      case round =>
        obtain ⟨k, hv, hk, rfl, hX, hrow, hbw, hall⟩ := hrel
        by_cases hlt : k < N
        · have hkn : k < ns.length := by rw [← hN.out]; exact hlt
          obtain ⟨p, hp⟩ : ∃ p, p = ns[k] := ⟨_, rfl⟩
          have hgw := (hG.below hbw hG.lt).cell (1 + k)
          rw [List.map_cons, Nat.add_comm, List.getElem?_cons_succ, List.getElem?_map, List.getElem?_eq_getElem hkn, ← hp, Nat.add_comm] at hgw
          have hpm : p ∈ ns := by rw [hp]; exact List.getElem_mem hkn
          have htk : Hid (ns.take (k + 1) = ns.take k ++ [p]) := Lib.hid (by rw [hp]; exact take_at hkn)
          have hkl : ((ns.take k).map pd).length = k := by rw [List.length_map, List.length_take]; omega
          obtain ⟨done, hdn⟩ : ∃ done, done = ns.take k := ⟨_, rfl⟩
          rw [← hdn] at htk hkl hrow hall
          simp only [Option.map_some, strV] at hgw
          have i1 : (0 : Int) ≤ (k : Int) := by omega
          have i2 : (k : Int) < (N : Int) := by omega
          have hdl := pd_length p
          have hdB : ((pd p).map B).length = 32 := by rw [List.length_map]; exact hdl
          have hdi : (Tryz.prog.info? 115).map (·.size) = some ((pd p).map B).length := by rw [hdB]; kernel_rfl
          have hBw : Blk wr w.heap.size 110 [v] := hB1.below hbw hlt1
          obtain ⟨HA, hc, rfl, hkc, hcm⟩ := own_form hrow
          obtain ⟨D, hD⟩ : ∃ D, D = (pd p).map B := ⟨_, rfl⟩
          have hpar2 : Hid (∀ w, Calls Tryz.prog 150 #[.string ⟨p.toArray⟩] w fun e w' => e = .returned (.tuple #[.agg D.toArray, .bool (pok p)]) ∧ Below w.heap.size w w') := Lib.hid (fun w => by rw [hD]; exact parse_any p w)
          rw [← hD] at hdB hdi
          have hD1 : ∀ u ∈ D, u.oneCell' = true := by rw [hD]; exact all_B _
          have hDi2 : (Tryz.prog.info? 115).map (·.size) = some zero32.length := hdi.trans (by rw [hdB]; rfl)
          have hDl : zero32.length = D.length := by rw [hdB]; rfl
          replace hdn := Lib.hid hdn
          replace hp := Lib.hid hp
          replace hD := Lib.hid hD
          replace hkl := Lib.hid hkl
          replace hall := Lib.hid hall
          replace hpm := Lib.hid hpm
          replace hrow := Lib.hid hrow
          clear hX0 hbx0 hc0 hdl
          obtain ⟨ok, hok2⟩ : ∃ ok, ok = pok p := ⟨_, rfl⟩
          rw [← hok2] at hpar2
          replace hok2 := Lib.hid hok2
          have hbA : Below w'.heap.size w' wr := hb1.trans (hbw.mono hb1.size)
          have hltr : w.heap.size < wr.heap.size := hBw.lt
          cases ok
          · gi_wp2_with (first
              | (refine wpListIn_out (by rfl) ?_
                 go_wp2_with (first
                   | (go_at_call 150; (with_reducible refine (hpar2.out _).mono ?_); rintro e W5 ⟨rfl, hb5⟩)
                   | (refine wpList_store_blk rfl 115 (.tmp 10) (.tmp 34) rfl W5.heap.size D rfl rfl 115 zero32 (Blk.new_at rfl) hDl hdi hD1 ?_; obtain ⟨hbox, hbb⟩ := boxed W5 115 zero32 D; generalize (W5.alloc (.cells zero32.toArray 115)).setRow W5.heap.size D.toArray = W6 at hbox hbb ⊢; have hB6 := (hBw.below hb5 hltr).below hbb (Nat.lt_of_lt_of_le hltr hb5.size); have hb6 := hbA.trans ((hb5.mono hbA.size).trans (hbb.mono (Nat.le_trans hbA.size hb5.size))); have hc6 := hB6.cell 0; have hf6 := hB6.frozen 0; clear hbb; go_frame))
                 refine NoOut.normal ?_))
            have hge := setCell_grown W6 w.heap.size 0 (.slice none 0 0)
            have hBl := hB6.set_ 0 (.slice none 0 0)
            have hnok : lineOk x = false := by
              unfold lineOk
              rw [← ht.out, hn0.out]
              show ns.all pok = false
              rw [List.all_eq_false]
              exact ⟨p, hpm.out, by rw [← hok2.out]; simp⟩
            have hall' : (linesOf s).all lineOk = false := by
              rw [hlo.out, List.all_append, List.all_cons, hnok]; simp
            refine ⟨keeps_two (row := none) hB (Nat.le_trans hb6.size hge.size) (fun r e => by cases e) (fun k hk hne _ => (setCell_at W6 w.heap.size 0 _ hne).trans (hb6.block k hk)), rfl, ?_, ?_, ?_, hBl⟩
            · unfold parseOk; rw [hall']; rfl
            · intro e
              have := hlo.out
              rw [e] at this
              cases pre <;> cases this
            · exact (hb.trans (hb6.mono hb.size)).grown hge (Nat.le_trans hb.size hb6.size) (fun k e => by cases e; exact Nat.le_refl _)
          · have hrk : k + 1 ≤ maxLen := by unfold maxLen; omega
            gi_wp2_with (first
              | (refine wpListIn_out (by rfl) ?_
                 go_wp2_with (first
                   | (go_at_call 150; (with_reducible refine (hpar2.out _).mono ?_); rintro e W5 ⟨rfl, hb5⟩)
                   | (refine wpList_store_blk rfl 115 (.tmp 10) (.tmp 34) rfl W5.heap.size D rfl rfl 115 zero32 (Blk.new_at rfl) hDl hdi hD1 ?_; obtain ⟨hbox, hbb⟩ := boxed W5 115 zero32 D; generalize (W5.alloc (.cells zero32.toArray 115)).setRow W5.heap.size D.toArray = W6 at hbox hbb ⊢; have hbr6 := hb5.trans (hbb.mono hb5.size); have hX6 := hX.below hbr6 hX.lt; have hd6 := hX6.cell 1; have hrow6 := Lib.hid (own_touch (L := []) hrow.out (Touch.ofBelow hbr6) (by simp)); have hbw6 := hbw.trans (hbr6.mono hbw.size); clear hbb; go_frame)
                   | (refine wpList_load_blk rfl 115 (.tmp 10) rfl W5.heap.size rfl 115 D hbox _ Tryz.underlying115 rfl hdi ?_; go_frame)
                   | (refine wpList_build_dig (.tmp 40) rfl rfl D hdB rfl ?_; go_frame)
                   | (at_builtin; refine wpList_append_rd _ rfl (.tmp 39) (.tmp 41) 108 rfl W1.heap.size 115 (.agg zero32.toArray) 32 32 Tryz.underlying108 digInfo (.slice HA k hc) k (hCells (done.map pd)) rfl (hrow6.out.alloc _) (fun _ => True) (some ⟨W6.heap.size, 0, none⟩) 1 1 D rfl hdB (Rd.of_blk (cs := D) (r := []) (Blk.new_at rfl) (by simp) trivial) hD1 hrk (by omega) (by have := hbw6.size; simp; omega) ?_; intro v' W7 hrow7 hg7 hv7; have hX7 := (hX6.alloc (.cells D.toArray 115)).keepRow (hrow6.out.alloc _) (by decide) hg7; have hb7 := (hbw6.alloc hbw6.size (.cells D.toArray 115)).trans (own_below (hrow6.out.alloc _) hg7 (by have := hbw6.size; simp; omega)); replace hrow7 := Lib.hid hrow7; clear hg7 hv7; obtain ⟨VA, vc, rfl, _, _⟩ := own_form hrow7.out; have hd7 := hX7.cell 1; have hf7 := hX7.frozen 1; clear hX6 hd6 hrow6; go_frame))
                 refine NoOut.normal ?_))
            have hBf := hX7.set_ 1 (.slice VA (k + 1) vc)
            have hok2' : pok p = true := hok2.out.symm
            go_roundw
            case rel =>
              refine ⟨k + 1, _, by omega, by simp, hBf, ?_, ?_, ?_⟩
              · rw [htk.out, List.map_append, List.map_cons, List.map_nil, hCells_snoc, ← hD.out]
                exact own_keepCell hrow7.out hX7 (by decide)
              · exact hb7.grown (setCell_grown W7 W1.heap.size 1 _) hb7.size (fun j e => by cases e; exact Nat.le_refl _)
              · rw [htk.out, List.all_append, hall.out]; simp [hok2']
            case measure => simp [intOf]; omega
        · obtain rfl : k = N := by omega
          have hB4w := hB1.below hbw hlt1
          obtain ⟨HA, hc, rfl, hkc, hcm⟩ := own_form hrow
          have hOw := hO.out.keepB (hb1.trans (hbw.mono hb1.size))
          have hbA : Below w'.heap.size w' wr := hb1.trans (hbw.mono hb1.size)
          have hpl : (pre.map lineBr).length ≤ 1073741824 := by
            have h1 := lines_len s
            rw [hlo.out] at h1
            simp only [List.length_append, List.length_cons] at h1
            rw [List.length_map]; omega
          obtain ⟨T, hT⟩ : ∃ T, T = pre.map lineBr := ⟨_, rfl⟩
          rw [← hT] at hOw hpl
          obtain ⟨TA, tc, rfl, _⟩ := hOw.form
          obtain ⟨vs, hvl, hrt, hht⟩ := hOw
          replace hT := Lib.hid hT
          obtain ⟨m, hm⟩ : ∃ m, m = T.length := ⟨_, rfl⟩
          rw [← hm] at hrt hpl hvl hB4w hB hB1
          replace hm := Lib.hid hm
          replace hrt := Lib.hid hrt
          replace hht := Lib.hid hht
          replace hrow := Lib.hid hrow
          replace hvl := Lib.hid hvl
          have hc4 := hB4w.cell 0
          have d0 := hX.cell 0
          have d1 := hX.cell 1
          have hmk : m + 1 ≤ maxLen := by unfold maxLen; omega
          have hbw0 : Below w.heap.size w wr := hb.trans (hbA.mono hb.size)
          have hszw := hbw0.size
          have hone : ∀ u ∈ [Value.string ⟨n0.toArray⟩, .slice HA k hc], u.oneCell' = true := by simp [Value.oneCell']
          clear hX0 hbx0 hc0
          gi_wp2_with (first
            | (refine wpListIn_out (by rfl) ?_
               go_wp2_with (first
                 | (at_builtin; refine wpList_append_rd _ rfl (.tmp 45) (.tmp 47) 110 rfl w.heap.size 138 (.agg zeroBr.toArray) 2 40 Tryz.underlying110 brInfo (.slice TA m tc) m (tCells T vs) rfl (hrt.out.alloc _) (fun _ => True) (some ⟨wr.heap.size, 0, none⟩) 1 1 [.string ⟨n0.toArray⟩, .slice HA k hc] rfl rfl (Rd.of_blk (cs := [.string ⟨n0.toArray⟩, .slice HA k hc]) (r := []) (Blk.new_at rfl) rfl trivial) hone hmk (by omega) (by simp; omega) ?_; intro v' W7 hrow7 hg7 hv7; have hB7 := (hB4w.alloc (.cells #[.string ⟨n0.toArray⟩, .slice HA k hc] 138)).keepRow (hrt.out.alloc _) (by decide) hg7; replace hrow7 := Lib.hid hrow7; replace hg7 := Lib.hid hg7; clear hv7; obtain ⟨VA, vc, rfl, _, _⟩ := own_form hrow7.out; have hd7 := hB7.cell 0; have hf7 := hB7.frozen 0; go_frame))
               refine NoOut.normal ?_))
          have hge := setCell_grown W7 w.heap.size 0 (.slice VA (m + 1) vc)
          have hBl := hB7.set_ 0 (.slice VA (m + 1) vc)
          obtain ⟨vs0, _, hro0, _⟩ := hO.out
          have hrowb := own_blk hro0
          have hoA := hrt.out.alloc (.cells #[.string ⟨n0.toArray⟩, .slice HA k hc] 138)
          have hba : Below wr.heap.size wr (wr.alloc (.cells #[.string ⟨n0.toArray⟩, .slice HA k hc] 138)) := (Below.refl _ _).alloc (Nat.le_refl _) _
          have hszf : wr.heap.size ≤ W7.heap.size := Nat.le_trans hba.size hg7.out.size
          have hsame : ∀ j, j < w'.heap.size → j ≠ w.heap.size → some j ≠ (Value.slice TA m tc).ownBlock → (W7.setCell ⟨w.heap.size, 0, none⟩ (.slice VA (m + 1) vc)).heap[j]? = w'.heap[j]? := fun j h1 h2 h3 => by
            have hj := Nat.lt_of_lt_of_le h1 hbA.size
            exact (setCell_at W7 w.heap.size 0 _ h2).trans ((hg7.out.block j (Nat.lt_of_lt_of_le hj hba.size) h3).trans ((hba.block j hj).trans (hbA.block j h1)))
          have hlb : lineBr x = ⟨n0, ns.map pd⟩ := by unfold lineBr; rw [← ht.out, hn0.out]; rfl
          have hrow2 : wr.ownsRow W1.heap.size 115 32 (.slice HA k hc) (ns.map pd).length (hCells (ns.map pd)) := by
            have := hrow.out
            have e : ns.take k = ns := by rw [hN.out, List.take_length]
            rw [e] at this
            rw [List.length_map, ← hN.out]; exact this
          have hu := ((((hd_of_own hrow2).lower (Nat.le_trans hb.size hb1.size)).keepB hba).keepRow hoA (by decide) hg7.out)
          have hbf : Below w.heap.size w W7 := hbw0.trans ((hba.mono hszw).trans (own_below hoA hg7.out (Nat.le_trans hszw hba.size)))
          refine ⟨keeps_two (row := (Value.slice TA m tc).ownBlock) (hB) (Nat.le_trans hbA.size (Nat.le_trans hszf hge.size)) (fun r e => by obtain ⟨cs, h⟩ := hrowb r (by rw [← hm.out]; exact e); exact ⟨_, cs, h⟩) hsame, ?_, ?_, ?_, _, hBl, ?_⟩
          · intro cs hS
            refine (hsame _ hS.lt (fun e => ?_) (fun e => ?_)).trans hS
            · exact (hB).ne_ (by rw [e] at hS; exact hS) (by decide) rfl
            · obtain ⟨cs', h⟩ := hrowb _ (by rw [← hm.out]; exact e.symm)
              exact h.ne_ hS (by decide) rfl
          · rw [List.all_append, hok]
            simp only [List.all_cons, List.all_nil, Bool.and_true, Bool.true_and]
            unfold lineOk
            rw [← ht.out, hn0.out]
            show ns.all pok = true
            rw [← List.take_length (l := ns), ← hN.out]; exact hall
          · exact hbf.grown hge hbf.size (fun j e => by cases e; exact Nat.le_refl _)
          · have := OwnTab.snoc (base := w.heap.size) (T := T) (b := lineBr x) (vs := vs) (by rw [hvl.out, hm.out]) (fun j b u h1 h2 => ((hht.out j b u h1 h2).keepB hba).keepRow hoA (by decide) hg7.out) (u := .slice HA k hc) (by rw [hlb]; exact hu) (by rw [hlb, ← hm.out]; exact hrow7.out)
            have hf := this.calm hge (fun r e t cs hB => by
              cases e
              have := hB.unique hB7
              subst this
              exact ⟨by decide, by decide⟩)
            rw [List.map_append, List.map_cons, List.map_nil, ← hT.out]
            exact hf
  case stop =>
    rintro D c pre W hDl ⟨rfl, hbad, hne, hb, hB⟩ hD
    refine wpIn_wide.2 ?_
    dsimp only
    clear hB2 hS2 hb2
    obtain ⟨T, hT⟩ : ∃ T : Tab, T = [] := ⟨_, rfl⟩
    obtain ⟨TA, hTA⟩ : ∃ TA : Option Addr, TA = none := ⟨_, rfl⟩
    obtain ⟨tc, htc⟩ : ∃ tc : Nat, tc = 0 := ⟨_, rfl⟩
    have hO : OwnTab W w.heap.size (.slice TA T.length tc) T := by subst hT; subst hTA; subst htc; exact OwnTab.nil
    replace hB : Blk W w.heap.size 110 [.slice TA T.length tc] := by subst hT; subst hTA; subst htc; exact hB
    have hTfit : TFit T := by subst hT; exact ⟨by simp, by simp⟩
    have hTok : parseOk s = (decide (mayE T = 0) && decide (printS T = s)) := by
      subst hT; rw [hbad]; symm; rw [Bool.and_eq_false_iff]; right; exact decide_eq_false (fun e => hne (by rw [← e]; rfl))
    have hTl : parseOk s = true → T = looseT s := fun h => by rw [hbad] at h; cases h
    clear hT hTA htc hbad hne
    have hfitb := hTfit
    have hcall := Lib.hid (print_any T _ _ W hO.tab hfitb)
    have hc4 : W.cell? ⟨w.heap.size, 0, none⟩ = some (.slice TA T.length tc) := hB.cell 0
    have hlt : w.heap.size < W.heap.size := hB.lt
    replace hO := Lib.hid hO
    replace hTfit := Lib.hid hTfit
    clear hB hfitb
    obtain ⟨Pt, hPt⟩ : ∃ Pt, Pt = printT T := ⟨_, rfl⟩
    obtain ⟨m, hm⟩ : ∃ m, m = mayE T := ⟨_, rfl⟩
    rw [← hPt, ← hm] at hcall
    unfold strV at hcall
    have hpsz : (⟨Pt.toArray⟩ : ByteArray).size = Pt.length := strLn Pt
    replace hPt := Lib.hid hPt
    replace hm := Lib.hid hm
    replace hTok := Lib.hid hTok
    replace hTl := Lib.hid hTl
    go_wp2_with (first
      | (go_at_call 151; (with_reducible refine hcall.out.mono ?_); rintro e W3 ⟨rfl, hb3⟩; have hc43 : W3.cell? ⟨w.heap.size, 0, none⟩ = some (.slice TA T.length tc) := (by rw [hb3.cell (p := ⟨w.heap.size, 0, none⟩) hlt]; exact hc4)))
    all_goals
      have hDl2 : D < W.heap.size := (Array.getElem?_eq_some_iff.1 hD).1
      have hD3 : W3.heap[D]? = some (.deferred (some [])) := (hb3.block D hDl2).trans hD
      have hgr := grownBy_putObj' W3 D (.deferred none)
      have hbf : Below w.heap.size w (W3.putObj D (.deferred none)) := (hb.trans (hb3.mono hb.size)).grown hgr (Nat.le_trans hb.size hb3.size) (fun k e => by cases e; omega)
      have hOf : OwnTab (W3.putObj D (.deferred none)) w.heap.size (.slice TA T.length tc) T := (hO.out.keepB hb3).calm hgr (fun r e t cs hB => by cases e; exact absurd hB (not_cells ⟨_, hD3, rfl⟩))
      rw [Exit.noGoto_ret]
      refine leaves_mark hD3 _ (results_tmp2 rfl _ _ _) ⟨hbf, ?_⟩
    · rename_i hm0 hne
      have hP : Pt = printS T := by rw [hPt.out, printT, ← hm.out, if_pos hm0]
      have hF : parseOk s = false := by
        rw [hTok.out, ← hP]
        have : Pt ≠ s := by intro e; rw [e] at hne; simp at hne
        simp [this]
      rw [hF]
      rfl
    · rename_i hm0 hne
      have hP : Pt = printS T := by rw [hPt.out, printT, ← hm.out, if_pos hm0]
      have hT : parseOk s = true := by
        have : Pt = s := by simpa using hne
        rw [hTok.out, ← hP, ← hm.out]
        simp [this, hm0]
      rw [hT]
      refine ⟨_, rfl, ?_⟩
      have := hTl.out hT
      rw [← this]
      exact hOf
    · rename_i hm0
      have hF : parseOk s = false := by
        rw [hTok.out, ← hm.out]
        simp [hm0]
      rw [hF]
      rfl
  case done =>
    rintro D W hDl ⟨hok, hb, v, hB, hO⟩ hD
    dsimp only
    clear hB2 hS2 hb2
    obtain ⟨T, hT⟩ : ∃ T : Tab, T = (linesOf s).map lineBr := ⟨_, rfl⟩
    rw [← hT] at hO
    obtain ⟨TA, tc, rfl, _⟩ := hO.form
    have hTfit : TFit T := by rw [hT]; exact looseT_fit s hs
    have hTok : parseOk s = (decide (mayE T = 0) && decide (printS T = s)) := by
      unfold parseOk; rw [hok, Bool.true_and, hT]; rfl
    have hTl : parseOk s = true → T = looseT s := fun _ => hT
    clear hT hok
    have hfitb := hTfit
    have hcall := Lib.hid (print_any T _ _ W hO.tab hfitb)
    have hc4 : W.cell? ⟨w.heap.size, 0, none⟩ = some (.slice TA T.length tc) := hB.cell 0
    have hlt : w.heap.size < W.heap.size := hB.lt
    replace hO := Lib.hid hO
    replace hTfit := Lib.hid hTfit
    clear hB hfitb
    obtain ⟨Pt, hPt⟩ : ∃ Pt, Pt = printT T := ⟨_, rfl⟩
    obtain ⟨m, hm⟩ : ∃ m, m = mayE T := ⟨_, rfl⟩
    rw [← hPt, ← hm] at hcall
    unfold strV at hcall
    have hpsz : (⟨Pt.toArray⟩ : ByteArray).size = Pt.length := strLn Pt
    replace hPt := Lib.hid hPt
    replace hm := Lib.hid hm
    replace hTok := Lib.hid hTok
    replace hTl := Lib.hid hTl
    go_wp2_with (first
      | (go_at_call 151; (with_reducible refine hcall.out.mono ?_); rintro e W3 ⟨rfl, hb3⟩; have hc43 : W3.cell? ⟨w.heap.size, 0, none⟩ = some (.slice TA T.length tc) := (by rw [hb3.cell (p := ⟨w.heap.size, 0, none⟩) hlt]; exact hc4)))
    all_goals
      have hDl2 : D < W.heap.size := (Array.getElem?_eq_some_iff.1 hD).1
      have hD3 : W3.heap[D]? = some (.deferred (some [])) := (hb3.block D hDl2).trans hD
      have hgr := grownBy_putObj' W3 D (.deferred none)
      have hbf : Below w.heap.size w (W3.putObj D (.deferred none)) := (hb.trans (hb3.mono hb.size)).grown hgr (Nat.le_trans hb.size hb3.size) (fun k e => by cases e; omega)
      have hOf : OwnTab (W3.putObj D (.deferred none)) w.heap.size (.slice TA T.length tc) T := (hO.out.keepB hb3).calm hgr (fun r e t cs hB => by cases e; exact absurd hB (not_cells ⟨_, hD3, rfl⟩))
      rw [Exit.noGoto_ret]
      refine leaves_mark hD3 _ (results_tmp2 rfl _ _ _) ⟨hbf, ?_⟩
    · rename_i hm0 hne
      have hP : Pt = printS T := by rw [hPt.out, printT, ← hm.out, if_pos hm0]
      have hF : parseOk s = false := by
        rw [hTok.out, ← hP]
        have : Pt ≠ s := by intro e; rw [e] at hne; simp at hne
        simp [this]
      rw [hF]
      rfl
    · rename_i hm0 hne
      have hP : Pt = printS T := by rw [hPt.out, printT, ← hm.out, if_pos hm0]
      have hT : parseOk s = true := by
        have : Pt = s := by simpa using hne
        rw [hTok.out, ← hP, ← hm.out]
        simp [this, hm0]
      rw [hT]
      refine ⟨_, rfl, ?_⟩
      have := hTl.out hT
      rw [← this]
      exact hOf
    · rename_i hm0
      have hF : parseOk s = false := by
        rw [hTok.out, ← hm.out]
        simp [hm0]
      rw [hF]
      rfl
end Go.Proofs.YtamdhaoglapnnaaGreatDoor
end
end
