/- Joined: RfL1, RfL2. -/
import Derived.Test.YtlenmkemjaaaoaaDoorRfO
import Derived.Lib.IndexLaws
import Derived.Test.YtlenmkemjaaaoaaDoorRjApp
section
/- Texts that are cut at bytes, in plain words. -/
namespace Go.Proofs.YtlenmkemjaaaoaaDoor

def splitW : Str → List Str
  | [] => [[]]
  | c :: r => if c = 32 then [] :: splitW r else match splitW r with | [] => [[c]] | l :: ls => (c :: l) :: ls
def linesOf : Str → List Str
  | [] => []
  | c :: r => if c = 10 then [10] :: linesOf r else match linesOf r with | [] => [[c]] | l :: ls => (c :: l) :: ls
theorem splitW_c (c : UInt8) (r : Str) : splitW (c :: r) = if c = 32 then [] :: splitW r else match splitW r with | [] => [[c]] | l :: ls => (c :: l) :: ls := rfl
theorem linesOf_c (c : UInt8) (r : Str) : linesOf (c :: r) = if c = 10 then [10] :: linesOf r else match linesOf r with | [] => [[c]] | l :: ls => (c :: l) :: ls := rfl
theorem splitW_cons_ne (s : Str) : ∃ l ls, splitW s = l :: ls := by
  induction s with
  | nil => exact ⟨_, _, rfl⟩
  | cons c r ih =>
    obtain ⟨l, ls, e⟩ := ih
    unfold splitW
    split
    · exact ⟨_, _, rfl⟩
    · rw [e]; exact ⟨_, _, rfl⟩
theorem splitW_none : ∀ {s : Str}, (∀ c ∈ s, c ≠ 32) → splitW s = [s]
  | [], _ => rfl
  | c :: r, h => by
    unfold splitW
    rw [if_neg (h c (by simp)), splitW_none (s := r) (fun x hx => h x (by simp [hx]))]
theorem splitW_at : ∀ {a b : Str}, (∀ c ∈ a, c ≠ 32) → splitW (a ++ 32 :: b) = a :: splitW b
  | [], b, _ => by simp [splitW]
  | c :: r, b, h => by
    show splitW (c :: (r ++ 32 :: b)) = _
    rw [splitW_c, if_neg (h c (by simp)), splitW_at (a := r) (fun x hx => h x (by simp [hx]))]
theorem linesOf_none : ∀ {s : Str}, s ≠ [] → (∀ c ∈ s, c ≠ 10) → linesOf s = [s]
  | [], h, _ => absurd rfl h
  | [c], _, h => by unfold linesOf; rw [if_neg (h c (by simp))]; rfl
  | c :: d :: r, _, h => by
    unfold linesOf
    rw [if_neg (h c (by simp)), linesOf_none (s := d :: r) (by simp) (fun x hx => h x (by simp at hx ⊢; right; exact hx))]
theorem linesOf_at : ∀ {a b : Str}, (∀ c ∈ a, c ≠ 10) → linesOf (a ++ 10 :: b) = (a ++ [10]) :: linesOf b
  | [], b, _ => by simp [linesOf]
  | c :: r, b, h => by
    show linesOf (c :: (r ++ 10 :: b)) = _
    rw [linesOf_c, if_neg (h c (by simp)), linesOf_at (a := r) (fun x hx => h x (by simp [hx]))]
    rfl
/-- Where a byte is first. -/
theorem ix_none {s : Str} {c : UInt8} (h : Lib.indexByte s c = -1) : ∀ x ∈ s, x ≠ c := by
  intro x hx e
  obtain ⟨k, hk, rfl⟩ := List.mem_iff_getElem.1 hx
  exact Lib.indexByte_none h k (by rw [List.getElem?_eq_getElem hk, e])
theorem ix_some {s : Str} {c : UInt8} {i : Nat} (h : Lib.indexByte s c = i) : i < s.length ∧ s = s.take i ++ c :: s.drop (i + 1) ∧ ∀ x ∈ s.take i, x ≠ c := by
  obtain ⟨h1, h2⟩ := Lib.indexByte_some h
  obtain ⟨hi, he⟩ := List.getElem?_eq_some_iff.1 h1
  refine ⟨hi, ?_, fun x hx e => ?_⟩
  · rw [← he, ← List.drop_eq_getElem_cons hi, List.take_append_drop]
  · obtain ⟨k, hk, rfl⟩ := List.mem_iff_getElem.1 hx
    rw [List.length_take] at hk
    rw [List.getElem_take] at e
    exact h2 k (by omega) (by rw [List.getElem?_eq_getElem (by omega), e])
theorem ix_cases (s : Str) (c : UInt8) : (Lib.indexByte s c = -1 ∧ ∀ x ∈ s, x ≠ c) ∨ ∃ i : Nat, Lib.indexByte s c = i ∧ i < s.length ∧ s = s.take i ++ c :: s.drop (i + 1) ∧ ∀ x ∈ s.take i, x ≠ c := by
  have := Lib.indexByte_ge s c
  rcases Int.lt_or_le (Lib.indexByte s c) 0 with h | h
  · have e : Lib.indexByte s c = -1 := by omega
    exact .inl ⟨e, ix_none e⟩
  · obtain ⟨i, hi⟩ := Int.eq_ofNat_of_zero_le h
    exact .inr ⟨i, hi, ix_some hi⟩
theorem split_len (s : Str) : (splitW s).length = s.count 32 + 1 := by
  induction s with
  | nil => rfl
  | cons c r ih =>
    obtain ⟨l, ls, e⟩ := splitW_cons_ne r
    unfold splitW
    rw [e] at ih ⊢
    by_cases hc : c = 32
    · rw [if_pos hc, hc]; simp at ih ⊢; omega
    · rw [if_neg hc]; simp [hc] at ih ⊢; omega
/-- Lines of a text, one by one. -/
theorem lines_step (s : Str) (hs : s ≠ []) : (Lib.indexByte s 10 = -1 ∧ linesOf s = [s]) ∨ ∃ i : Nat, Lib.indexByte s 10 = i ∧ i < s.length ∧ linesOf s = s.take (i + 1) :: linesOf (s.drop (i + 1)) := by
  rcases ix_cases s 10 with ⟨h1, h2⟩ | ⟨i, h1, h2, h3, h4⟩
  · exact .inl ⟨h1, linesOf_none hs h2⟩
  · refine .inr ⟨i, h1, h2, ?_⟩
    have e : s.take (i + 1) = s.take i ++ [10] := by
      have := Lib.indexByte_some h1
      rw [List.take_add_one, this.1]; rfl
    rw [e]
    conv => lhs; rw [h3]
    exact linesOf_at h4
end Go.Proofs.YtlenmkemjaaaoaaDoor
end

section
/- The walks of strings.Split at a blank, of strings.TrimSuffix at a line's end. -/
namespace Go.Proofs.YtlenmkemjaaaoaaDoor
open Go.RowKit

theorem idx_any (s : Str) (w : World) : Calls Tryd.prog 93 #[.string ⟨s.toArray⟩, .string ⟨#[32]⟩] w fun e w' => e = .returned (.int .i64 (Lib.indexByte s 32)) ∧ w = w' :=
  (Tryd.strings_Index_one ⟨s.toArray⟩ 32 w).mono fun _ _ ⟨h1, h2⟩ => ⟨h1, h2.symm⟩
theorem cnt_any (s : Str) (w : World) : Calls Tryd.prog 92 #[.string ⟨s.toArray⟩, .string ⟨#[32]⟩] w fun e w' => e = .returned (.int .i64 (s.count 32 : Nat)) ∧ w = w' :=
  (Tryd.strings_Count_one ⟨s.toArray⟩ 32 w).mono fun _ _ ⟨h1, h2⟩ => ⟨h1, h2.symm⟩
theorem ext_drop (t : Str) (j : Nat) : (⟨t.toArray⟩ : ByteArray).extract j t.length = ⟨(t.drop j).toArray⟩ := by
  apply ByteArray.ext
  simp
  exact List.take_of_length_le (by simp)
theorem ext_tk (t : Str) (j : Nat) : (⟨t.toArray⟩ : ByteArray).extract 0 j = ⟨(t.take j).toArray⟩ := by
  apply ByteArray.ext
  simp
theorem run_str_to (w : World) (t : Str) (j : Nat) (hj : j ≤ t.length) : (Instr.sliceAt 9 (.string ⟨t.toArray⟩) none (some (.int .i64 (j : Int))) none).run Tryd.prog w = .ok (.string ⟨(t.take j).toArray⟩) w := by
  have hs : (⟨t.toArray⟩ : ByteArray).size = t.length := strLn t
  simp [Instr.sliceAt, Instr.slice, run_underlying Tryd.underlying9, Instr.sliceBounds, run_sliceBound, hs, hj, ext_tk]
theorem run_str_from (w : World) (t : Str) (j : Nat) (hj : j ≤ t.length) : (Instr.sliceAt 9 (.string ⟨t.toArray⟩) (some (.int .i64 (j : Int))) none none).run Tryd.prog w = .ok (.string ⟨(t.drop j).toArray⟩) w := by
  have hs : (⟨t.toArray⟩ : ByteArray).size = t.length := strLn t
  simp [Instr.sliceAt, Instr.slice, run_underlying Tryd.underlying9, Instr.sliceBounds, run_sliceBound, hs, hj, ext_drop]
theorem strInfo : ∃ i, Tryd.prog.info? 9 = some i ∧ i.zero = some (.string ⟨#[]⟩) ∧ i.size = 1 ∧ i.bytes = 16 := by
  have h : (Tryd.prog.info? 9).map (fun i => (i.zero, i.size, i.bytes)) = some (some (.string ⟨#[]⟩), 1, 16) := by kernel_rfl
  cases hq : Tryd.prog.info? 9 with
  | none => simp [hq] at h
  | some i =>
    simp only [hq, Option.map_some, Option.some.injEq, Prod.mk.injEq] at h
    exact ⟨i, rfl, h.1, h.2.1, h.2.2⟩
theorem made_str (n : Nat) : (madeCells (Value.string ⟨#[]⟩).cells n).toList = List.replicate n (.string ⟨#[]⟩) := by
  have h1 : (Value.string ⟨#[]⟩).cells = #[.string ⟨#[]⟩] := rfl
  rw [h1]
  simp only [madeCells, List.size_toArray, List.length_cons, List.length_nil, Nat.zero_add, Nat.mod_one]
  apply List.ext_getElem
  · simp
  · intro i _ _; simp
theorem set_pad (ps : List Str) (m : Nat) (x : Str) : (ps.map strV ++ List.replicate (m + 1) (Value.string ⟨#[]⟩)).set ps.length (.string ⟨x.toArray⟩) = (ps ++ [x]).map strV ++ List.replicate m (.string ⟨#[]⟩) := by
  have : (ps.map strV).length = ps.length := by simp
  rw [List.set_append_right _ _ (by omega), this, Nat.sub_self]
  simp [List.replicate_succ, strV]
/-- What Split gives. -/
def SplitTo (w : World) (ps : List Str) (e : Ending) (w' : World) : Prop := ∃ g, e = .returned (.slice (some ⟨g, 0, none⟩) ps.length ps.length) ∧ Blk w' g 9 (ps.map strV) ∧ w.heap.size ≤ g ∧ Below w.heap.size w w'
set_option maxRecDepth 100000 in
set_option maxHeartbeats 4000000 in
theorem gsplit_any (s : Str) (w : World) (hs : s.length ≤ 4294967296) :
    Calls Tryd.prog 71 #[.string ⟨s.toArray⟩, .string ⟨#[32]⟩, .int .i64 0, .int .i64 (-1)] w (SplitTo w (splitW s)) := by
  have hlen := split_len s
  have hcl : s.count 32 ≤ s.length := List.count_le_length
  obtain ⟨n, hn⟩ : ∃ n, n = s.count 32 := ⟨_, rfl⟩
  have hcnt := Lib.hid (cnt_any s w)
  rw [← hn] at hlen hcl hcnt
  have hsl : (⟨s.toArray⟩ : ByteArray).size = s.length := strLn s
  obtain ⟨i0, hi0, hz0, hz1, hz2⟩ := strInfo
  replace hi0 := Lib.hid hi0
  replace hz0 := Lib.hid hz0
  replace hz1 := Lib.hid hz1
  have hz2' : Hid (i0.bytes * (n + 1) ≤ 281474976710656) := Lib.hid (by rw [hz2]; omega)
  clear hz2
  replace hn := Lib.hid hn
  replace hlen := Lib.hid hlen
  have hmin : min (n : Int) (s.length : Int) = (n : Int) := by omega
  go_enter Tryd.func71, Tryd.ntmps71
  go_wp2_with (first
    | (go_at_call 92; refine hcnt.out.mono ?_; rintro e w' ⟨rfl, rfl⟩)
    | (refine wpList_make_full _ rfl (.tmp 30) (.tmp 30) 98 rfl w.heap.size 9 i0 (.string ⟨#[]⟩) 1 Tryd.underlying98 hi0.out hz0.out hz1.out .i64 .i64 _ _ (n + 1) rfl rfl rfl rfl hz2'.out (by unfold maxLen; omega) (Nat.le_refl _) ?_; intro w2 hrow2 hg2; replace hrow2 := Lib.hid hrow2; replace hg2 := Lib.hid hg2; go_frame))
  have hB2 : Blk w2 w.heap.size 9 (([] : List Str).map strV ++ List.replicate (n + 1) (.string ⟨#[]⟩)) := by
    rcases hrow2.out.2 with ⟨h, _⟩ | ⟨g', cap', cur', h, _, hg, _, _, h3, h4⟩
    · cases h
    · injection h with ha hb hc
      injection ha with ha
      injection ha with ha
      subst ha; subst hc
      rw [Nat.mul_one, made_str] at h4
      have hcl : cur'.toList.length = n + 1 := by simpa using h3
      rw [List.take_of_length_le (by omega)] at h4
      unfold Blk
      rw [hg, ← h4]
      simp
  have hb2 : Below w.heap.size w w2 := ⟨hg2.out.os, hg2.out.tape, hg2.out.output, hg2.out.size, fun k hk => hg2.out.block k hk (by simp)⟩
  clear hrow2 hg2 hcnt hmin hz2' hi0 hz0 hz1
  go_wp2_with fail
  go_loopw [10, 0] (fun i t wr => ∃ (k : Nat) (ps : List Str) (r : Str), k ≤ n ∧ i = .int .i64 k ∧ t = .string ⟨r.toArray⟩ ∧ ps.length = k ∧ r.length ≤ s.length ∧ Hid (splitW s = ps ++ splitW r) ∧ Hid (r.count 32 = n - k) ∧ Blk wr w.heap.size 9 (ps.map strV ++ List.replicate (n - k + 1) (.string ⟨#[]⟩)) ∧ Below w.heap.size w wr) (fun i _ _ => n - (intOf i).toNat)
  case atStart => exact ⟨0, [], s, Nat.zero_le _, rfl, rfl, rfl, Nat.le_refl _, Lib.hid rfl, Lib.hid (by rw [hn.out]; rfl), hB2, hb2⟩
  case round =>
    clear hB2 hb2
    obtain ⟨k, ps, r, hk, rfl, rfl, hpl, hrl, hsp, hrc, hB, hb⟩ := hrel
    have hix := Lib.hid (idx_any r)
    have hrs : (⟨r.toArray⟩ : ByteArray).size = r.length := strLn r
    by_cases hlt : k < n
    · rcases ix_cases r 32 with ⟨e, hnone⟩ | ⟨j, e, hj, hrj, hfst⟩
      · exfalso
        have : r.count 32 = 0 := List.count_eq_zero.2 (fun hm => hnone _ hm rfl)
        have := hrc.out
        omega
      · rw [e] at hix
        have hs1 := fun W => run_str_to W r j (by omega)
        have hs2 := fun W => run_str_from W r (j + 1) (by omega)
        rw [show ((j + 1 : Nat) : Int) = (j : Int) + 1 from rfl] at hs2
        have hsp2 : Hid (splitW s = (ps ++ [r.take j]) ++ splitW (r.drop (j + 1))) := Lib.hid (by
          rw [hsp.out]
          conv => lhs; rw [hrj]
          rw [splitW_at hfst, List.append_assoc]; rfl)
        have hrc2 : Hid ((r.drop (j + 1)).count 32 = n - (k + 1)) := Lib.hid (by
          have h1 := hrc.out
          rw [hrj, List.count_append, List.count_cons_self, List.count_eq_zero.2 (fun hm => hfst _ hm rfl)] at h1
          omega)
        have hset : Hid ((ps.map strV ++ List.replicate (n - k + 1) (Value.string ⟨#[]⟩)).set k (.string ⟨(r.take j).toArray⟩) = (ps ++ [r.take j]).map strV ++ List.replicate (n - (k + 1) + 1) (.string ⟨#[]⟩)) := Lib.hid (by
          have := set_pad ps (n - k) (r.take j)
          rw [hpl] at this
          rw [this]; congr 2; omega)
        have hdl : (r.drop (j + 1)).length ≤ s.length := by rw [List.length_drop]; omega
        obtain ⟨x, hx⟩ : ∃ x, x = r.take j := ⟨_, rfl⟩
        obtain ⟨y, hy⟩ : ∃ y, y = r.drop (j + 1) := ⟨_, rfl⟩
        rw [← hx] at hs1 hsp2 hset
        rw [← hy] at hs2 hsp2 hrc2 hdl
        have hz := hB.frozen k
        have hcell : wr.cell? ⟨w.heap.size, k, none⟩ = some (.string ⟨#[]⟩) := by
          rw [hB.cell, List.getElem?_append_right (by simp; omega)]
          simp [hpl]
        have i1 : (0 : Int) ≤ (k : Int) := by omega
        have i2 : (k : Int) < (n : Int) + 1 := by omega
        have i3 : (0 : Int) ≤ (j : Int) := by omega
        have d1 : decide ((j : Int) < 0) = false := decide_eq_false (by omega)
        clear hx hy hsp hrc e hrj hfst
        go_wp2_with ((go_at_call 93; refine (hix.out _).mono ?_; rintro e w' ⟨rfl, rfl⟩))
        go_roundw
        case rel =>
          refine ⟨k + 1, ps ++ [x], y, by omega, by go_num, rfl, by simp [hpl], hdl, hsp2, hrc2, ?_, hb.setCell (p := ⟨w.heap.size, k, none⟩) (Nat.le_refl _) _⟩
          rw [← hset.out]
          exact hB.set_ k _
        case measure => simp [intOf]; omega
    · obtain rfl : k = n := by omega
      have hlast : Hid (splitW s = ps ++ [r]) := Lib.hid (by
        rw [hsp.out, splitW_none (fun c hc e => by
          have h0 : r.count 32 = 0 := by rw [hrc.out]; omega
          rw [e] at hc
          exact absurd hc (List.count_eq_zero.1 h0))])
      have hset : Hid ((ps.map strV ++ List.replicate (k - k + 1) (Value.string ⟨#[]⟩)).set k (.string ⟨r.toArray⟩) = (ps ++ [r]).map strV) := Lib.hid (by
        have := set_pad ps 0 r
        rw [hpl] at this
        rw [Nat.sub_self, this]; simp)
      have hz := hB.frozen k
      have hcell : wr.cell? ⟨w.heap.size, k, none⟩ = some (.string ⟨#[]⟩) := by
        rw [hB.cell, List.getElem?_append_right (by simp; omega)]
        simp [hpl]
      have hs3 := fun W => run_slice_to (P := Tryd.prog) W 98 9 1 Tryd.underlying98 (by kernel_rfl) (some ⟨w.heap.size, 0, none⟩) (k + 1) (k + 1) (k + 1) (Nat.le_refl _)
      rw [show ((k + 1 : Nat) : Int) = (k : Int) + 1 from rfl] at hs3
      have i1 : (0 : Int) ≤ (k : Int) := by omega
      have i2 : (k : Int) < (k : Int) + 1 := by omega
      clear hsp hrc hix
      go_wp2
      go_ret
      refine ⟨w.heap.size, ?_, ?_, Nat.le_refl _, hb.setCell (p := ⟨w.heap.size, k, none⟩) (Nat.le_refl _) _⟩
      · rw [hlen.out]; rfl
      · rw [hlast.out, ← hset.out]
        exact hB.set_ k _
set_option maxRecDepth 100000 in
set_option maxHeartbeats 1000000 in
theorem split_any (s : Str) (w : World) (hs : s.length ≤ 4294967296) :
    Calls Tryd.prog 42 #[.string ⟨s.toArray⟩, .string ⟨#[32]⟩] w (SplitTo w (splitW s)) := by
  have h := Lib.hid (gsplit_any s w hs)
  go_enter Tryd.func42, Tryd.ntmps42
  go_wp2_with fail
  refine h.out.mono ?_
  rintro e w2 ⟨g, rfl, hB, hg, hb⟩
  replace hB := Lib.hid hB
  replace hb := Lib.hid hb
  go_wp2
  go_ret
  exact ⟨g, rfl, hB.out, hg, hb.out⟩
end Go.Proofs.YtlenmkemjaaaoaaDoor
end
