/- The walks of Itoa, Text, Cut, number and Parse. -/
import Derived.Test.YtnkmcjkmabjfhaaDoorWalkOf
import Derived.Test.YtnkmcjkmabjfhaaDoorDigP
import Derived.Test.YtnkmcjkmabjfhaaDoorShelf
import Derived.Lib.SmallJoins
import Derived.Lib.AppendIntMem
import Derived.Lib.AtoiErrMem
import Derived.Lib.ItoaLen
import Derived.Deep.QuietTactic
import Derived.BigQuiet
namespace Go.Proofs.YtnkmcjkmabjfhaaDoor
open Go.RowKit

/-- The library's table of powers lies in memory. -/
def TabK (w : World) : Prop := Lib.TabIs Tryd.prog w "internal/strconv.uint64pow10" .u64 Lib.pow10Tab
theorem gPow : Tryd.prog.globalNamed "internal/strconv.uint64pow10" = some 4 := by kernel_rfl
theorem tabK_below {w w' : World} (h : TabK w) (hb : Below w.heap.size w w') : TabK w' := Joins.tab_stays gPow h hb (Nat.le_refl _)
theorem itoa_any (n : Nat) (hn : n ≤ 1125899906842624) (w : World) (hT : TabK w) :
    Calls Tryd.prog 39 #[.int .i64 (n : Int)] w fun e w' => e = .returned (.string ⟨(Lib.decDigits n).toArray⟩) ∧ Below w.heap.size w w' := by
  refine (Tryd.strconv_Itoa (n : Int) (by omega) (by omega) w hT).mono ?_
  rintro e w' ⟨rfl, k, os, rfl⟩
  rw [Lib.itoa_nonneg]
  exact ⟨rfl, Lib.below_grow _ _ (Nat.le_refl _) _ _⟩
/-- A spot's text. -/
def textS (p : Nat × Nat) : List UInt8 := Lib.decDigits p.1 ++ (58 :: Lib.decDigits p.2)
theorem dec_len {n : Nat} (h : n ≤ 1125899906842624) : (Lib.decDigits n).length ≤ 21 := by
  rw [← Lib.itoa_nonneg]; exact Lib.itoa_length_le _ (by omega) (by omega)
set_option maxHeartbeats 1000000 in
theorem text_yes (a b : Nat) (p : Nat × Nat) (h : pairOf a b = some p) (w : World) (hT : TabK w) :
    Calls Tryd.prog 31 #[.complex .f64 a b] w fun e w' => e = .returned (.string ⟨(textS p).toArray⟩) ∧ Below w.heap.size w w' := by
  obtain ⟨g1, g2⟩ := pairOf_some h
  obtain ⟨n1, l1⟩ := partOf_isN g1
  obtain ⟨n2, l2⟩ := partOf_isN g2
  rw [pow50] at l1 l2
  have c1 := fun w => is_any a b w
  have hi : (isP a && isP b) = true := by unfold isP; rw [g1, g2]; rfl
  rw [hi] at c1
  replace c1 := Lib.hid c1
  have h1 := fun w => run_conv_isN w n1 l1
  have h2 := fun w => run_conv_isN w n2 l2
  have i1 := Lib.hid (fun w hT => itoa_any p.1 l1 w hT)
  have i2 := Lib.hid (fun w hT => itoa_any p.2 l2 w hT)
  have d1 := dec_len l1
  have d2 := dec_len l2
  obtain ⟨x, hx⟩ : ∃ x, x = Lib.decDigits p.1 := ⟨_, rfl⟩
  obtain ⟨y, hy⟩ : ∃ y, y = Lib.decDigits p.2 := ⟨_, rfl⟩
  have ht : textS p = x ++ 58 :: y := by unfold textS; rw [hx, hy]
  rw [ht]
  rw [← hx] at i1 d1
  rw [← hy] at i2 d2
  have s1 : (⟨x.toArray⟩ : ByteArray).size + (⟨#[58]⟩ : ByteArray).size ≤ 9223372036854775807 := by simp [ByteArray.size]; omega
  have s2 : (⟨(x ++ [58]).toArray⟩ : ByteArray).size + (⟨y.toArray⟩ : ByteArray).size ≤ 9223372036854775807 := by simp [ByteArray.size]; omega
  have a1 := fun w => run_string_add_sum (P := Tryd.prog) w ⟨x.toArray⟩ ⟨#[58]⟩ s1
  have a2 := fun w => run_string_add_sum (P := Tryd.prog) w ⟨(x ++ [58]).toArray⟩ ⟨y.toArray⟩ s2
  have e1 : (⟨x.toArray⟩ : ByteArray) ++ (⟨#[58]⟩ : ByteArray) = ⟨(x ++ [58]).toArray⟩ := str_append x [58]
  rw [e1] at a1
  rw [str_append] at a2
  clear g1 g2 n1 n2 h hi hx hy ht e1 s1 s2 l1 l2 d1 d2
  go_enter Tryd.func31, Tryd.ntmps31
  go_wp2_with fail
  refine (c1.out _).mono ?_
  rintro e w' ⟨rfl, rfl⟩
  go_wp2_with fail
  refine (i1.out _ hT).mono ?_
  rintro e w1 ⟨rfl, hb1⟩
  go_wp2_with fail
  refine (i2.out _ (tabK_below hT hb1)).mono ?_
  rintro e w2 ⟨rfl, hb2⟩
  go_wp2
  go_ret
  exact ⟨rfl, hb1.trans (hb2.mono hb1.size)⟩
set_option maxHeartbeats 1000000 in
theorem text_no (a b : Nat) (h : pairOf a b = none) (w : World) :
    Calls Tryd.prog 31 #[.complex .f64 a b] w fun e w' => e = .returned (.string ⟨#[]⟩) ∧ w = w' := by
  have c1 := fun w => is_any a b w
  have hi : (isP a && isP b) = false := by
    cases hb : (isP a && isP b) with
    | false => rfl
    | true => obtain ⟨p, hp⟩ := pairOf_isP hb; rw [h] at hp; cases hp
  rw [hi] at c1
  replace c1 := Lib.hid c1
  clear h hi
  go_enter Tryd.func31, Tryd.ntmps31
  go_wp2_with fail
  refine (c1.out _).mono ?_
  rintro e w' ⟨rfl, rfl⟩
  go_wp2
  go_ret
  exact ⟨rfl, rfl⟩

/-- Where the first byte c stands. -/
theorem indexByte_cases (l : List UInt8) (c : UInt8) : (Lib.indexByte l c = -1 ∧ c ∉ l) ∨ ∃ x y, l = x ++ c :: y ∧ c ∉ x ∧ Lib.indexByte l c = (x.length : Int) := by
  induction l with
  | nil => left; simp [Lib.indexByte]
  | cons b l ih =>
    by_cases hb : b = c
    · subst hb; right; exact ⟨[], l, rfl, by simp, by simp [Lib.indexByte]⟩
    · have hbc : (b == c) = false := by simp [hb]
      rcases ih with ⟨h1, h2⟩ | ⟨x, y, h1, h2, h3⟩
      · left
        refine ⟨?_, by simp [h2, Ne.symm hb]⟩
        simp only [Lib.indexByte, hbc, h1]; simp
      · right
        refine ⟨b :: x, y, by rw [h1]; rfl, by simp [h2, Ne.symm hb], ?_⟩
        have hn : (Lib.indexByte l c == -1) = false := by rw [h3]; simp
        simp only [Lib.indexByte, hbc, hn]
        rw [h3]; simp
theorem index_one (l : List UInt8) (w : World) : Calls Tryd.prog 46 #[.string ⟨l.toArray⟩, .string ⟨#[58]⟩] w fun e w' => e = .returned (.int .i64 (Lib.indexByte l 58)) ∧ w = w' := by
  refine (Tryd.stringslite_Index_one ⟨l.toArray⟩ 58 w).mono ?_
  rintro e w' ⟨rfl, rfl⟩
  exact ⟨rfl, rfl⟩
theorem extract_drop (l : List UInt8) (n : Nat) : (⟨l.toArray⟩ : ByteArray).extract n (⟨l.toArray⟩ : ByteArray).size = ⟨(l.drop n).toArray⟩ := by
  apply ByteArray.ext
  simp [ByteArray.data_extract, ByteArray.size]
  exact List.take_of_length_le (by simp)
set_option maxHeartbeats 1000000 in
theorem lcut_no (l : List UInt8) (h : Lib.indexByte l 58 = -1) (w : World) :
    Calls Tryd.prog 41 #[.string ⟨l.toArray⟩, .string ⟨#[58]⟩] w fun e w' => e = .returned (.tuple #[.string ⟨l.toArray⟩, .string ⟨#[]⟩, .bool false]) ∧ w = w' := by
  have c1 := fun w => index_one l w
  rw [h] at c1
  replace c1 := Lib.hid c1
  clear h
  go_enter Tryd.func41, Tryd.ntmps41
  go_wp2_with fail
  refine (c1.out _).mono ?_
  rintro e w' ⟨rfl, rfl⟩
  go_wp2
  go_ret3
  exact ⟨rfl, rfl⟩
theorem drop_cons (x y : List UInt8) (c : UInt8) : (x ++ c :: y).drop (x.length + 1) = y := by simp
set_option maxHeartbeats 1000000 in
theorem lcut_yes (x y : List UInt8) (hl : (x ++ 58 :: y).length ≤ 140737488351300) (h : Lib.indexByte (x ++ 58 :: y) 58 = (x.length : Int)) (w : World) :
    Calls Tryd.prog 41 #[.string ⟨(x ++ 58 :: y).toArray⟩, .string ⟨#[58]⟩] w fun e w' => e = .returned (.tuple #[.string ⟨x.toArray⟩, .string ⟨y.toArray⟩, .bool true]) ∧ Below w.heap.size w w' := by
  have c1 := fun w => index_one (x ++ 58 :: y) w
  rw [h] at c1
  replace c1 := Lib.hid c1
  have hsz : (⟨(x ++ 58 :: y).toArray⟩ : ByteArray).size = x.length + 1 + y.length := by simp [ByteArray.size]; omega
  have hl2 : x.length + 1 + y.length ≤ 140737488351300 := by simp at hl; omega
  have t1 : (⟨(x ++ 58 :: y).toArray⟩ : ByteArray).extract 0 x.length = ⟨x.toArray⟩ := by rw [extract_take]; simp
  have t2 : (⟨(x ++ 58 :: y).toArray⟩ : ByteArray).extract (x.length + 1) (x.length + 1 + y.length) = ⟨y.toArray⟩ := by
    have := extract_drop (x ++ 58 :: y) (x.length + 1)
    rwa [hsz, drop_cons] at this
  obtain ⟨s, hs⟩ : ∃ s : ByteArray, s = ⟨(x ++ 58 :: y).toArray⟩ := ⟨_, rfl⟩
  rw [← hs] at c1 hsz t1 t2 ⊢
  clear h hs hl
  obtain ⟨n, hn⟩ : ∃ n, n = x.length := ⟨_, rfl⟩
  rw [← hn] at c1 hsz t1 t2 hl2
  obtain ⟨m, hm⟩ : ∃ m, m = y.length := ⟨_, rfl⟩
  rw [← hm] at hsz t2 hl2
  clear hn hm
  have b1 : (0 : Int) ≤ (n : Int) := by omega
  go_enter Tryd.func41, Tryd.ntmps41
  go_wp2_with fail
  refine (c1.out _).mono ?_
  rintro e w' ⟨rfl, rfl⟩
  go_wp2
  go_quiet (fail)
  go_wp2
  go_ret3
  exact ⟨rfl, below_drewN (Below.refl _ _) nq⟩
set_option maxHeartbeats 1000000 in
theorem cut_no (l : List UInt8) (h : Lib.indexByte l 58 = -1) (w : World) :
    Calls Tryd.prog 36 #[.string ⟨l.toArray⟩, .string ⟨#[58]⟩] w fun e w' => e = .returned (.tuple #[.string ⟨l.toArray⟩, .string ⟨#[]⟩, .bool false]) ∧ w = w' := by
  have c1 := Lib.hid (fun w => lcut_no l h w)
  clear h
  go_enter Tryd.func36, Tryd.ntmps36
  go_wp2_with fail
  refine (c1.out _).mono ?_
  rintro e w' ⟨rfl, rfl⟩
  go_wp2
  go_ret3
  exact ⟨rfl, rfl⟩
set_option maxHeartbeats 1000000 in
theorem cut_yes (x y : List UInt8) (hl : (x ++ 58 :: y).length ≤ 140737488351300) (h : Lib.indexByte (x ++ 58 :: y) 58 = (x.length : Int)) (w : World) :
    Calls Tryd.prog 36 #[.string ⟨(x ++ 58 :: y).toArray⟩, .string ⟨#[58]⟩] w fun e w' => e = .returned (.tuple #[.string ⟨x.toArray⟩, .string ⟨y.toArray⟩, .bool true]) ∧ Below w.heap.size w w' := by
  have c1 := fun w => lcut_yes x y hl h w
  generalize (⟨(x ++ 58 :: y).toArray⟩ : ByteArray) = s at *
  replace c1 := Lib.hid c1
  clear h hl
  go_enter Tryd.func36, Tryd.ntmps36
  go_wp2_with fail
  refine (c1.out _).mono ?_
  rintro e w' ⟨rfl, hb⟩
  go_wp2
  go_ret3
  exact ⟨rfl, hb⟩

/-- What number hands back. -/
def NumV (o : Option Nat) (v : Value) : Prop := match o with
  | some n => ∃ a, v = .float .f64 a ∧ IsN a n
  | none => v = .float .f64 0
set_option maxHeartbeats 1000000 in
theorem number_yes (n : Nat) (hn : n ≤ 1125899906842624) (w : World) (hT : TabK w) :
    Calls Tryd.prog 37 #[.string ⟨(Lib.decDigits n).toArray⟩] w fun e w' => (∃ a, e = .returned (.tuple #[.float .f64 a, .bool true]) ∧ IsN a n) ∧ Below w.heap.size w w' := by
  have hlen := dec_len hn
  have c1 : ∀ w, Calls Tryd.prog 42 #[.string ⟨(Lib.decDigits n).toArray⟩] w fun e w' => e = .returned (.tuple #[.int .i64 (n : Int), .nilIface]) ∧ Below w.heap.size w w' := by
    intro w
    refine (Tryd.strconv_Atoi_ok ⟨(Lib.decDigits n).toArray⟩ (by simp [ByteArray.size]; omega) (n : Int) (by simpa using atoi_dec hn) w).mono ?_
    rintro e w' ⟨rfl, h⟩
    refine ⟨rfl, ?_⟩
    rcases h with rfl | ⟨t, rfl⟩
    · exact Below.refl _ _
    · exact Lib.bytesWorld_below _ _ _
  have c2 := Lib.hid (fun w hT => itoa_any n hn w hT)
  replace c1 := Lib.hid c1
  have hN : IsN (floatOfInt .f64 (n : Int)) n := isN_nearest (by omega)
  replace hN := Lib.hid hN
  obtain ⟨l, hl⟩ : ∃ l, l = Lib.decDigits n := ⟨_, rfl⟩
  rw [← hl] at c1 c2 ⊢
  clear hl hlen
  go_enter Tryd.func37, Tryd.ntmps37
  go_wp2_with fail
  refine (c1.out _).mono ?_
  rintro e w1 ⟨rfl, hb1⟩
  go_wp2_with fail
  refine (c2.out _ (tabK_below hT hb1)).mono ?_
  rintro e w2 ⟨rfl, hb2⟩
  go_wp2
  go_ret2
  exact ⟨⟨_, rfl, hN.out⟩, hb1.trans (hb2.mono hb1.size)⟩
end Go.Proofs.YtnkmcjkmabjfhaaDoor
