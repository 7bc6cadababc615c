/- The walks of number, whatever the text, and of the reference's number. -/
import Derived.Test.YtnkmcjkmabjfhaaDoorWalkReads
import Derived.Shelf.Strconv.ErrVarAll
import Derived.Laws.StructEq
namespace Go.Proofs.YtnkmcjkmabjfhaaDoor
open Go.RowKit

/-- The library's two errors lie in memory. -/
def ErrK (w : World) : Prop := (∃ tp p, w.var? Tryd.prog "strconv.ErrSyntax" = some #[.iface tp p]) ∧ ∃ tp p, w.var? Tryd.prog "strconv.ErrRange" = some #[.iface tp p]
theorem var_below {w w' : World} {name : String} {cs : Array Value} (h : w.var? Tryd.prog name = some cs) (hb : Below w.heap.size w w') : w'.var? Tryd.prog name = some cs := by
  unfold World.var? at h ⊢
  cases hg : Tryd.prog.globalNamed name with
  | none => rw [hg] at h; cases h
  | some g =>
    rw [hg] at h
    simp only [Option.bind_some] at h ⊢
    have hlt : g < w.heap.size := by
      rcases Nat.lt_or_ge g w.heap.size with hl | hl
      · exact hl
      · rw [Array.getElem?_eq_none hl] at h; cases h
    rw [hb.block g hlt]; exact h
theorem errK_below {w w' : World} (h : ErrK w) (hb : Below w.heap.size w w') : ErrK w' := by
  obtain ⟨⟨a, b, h1⟩, c, d, h2⟩ := h
  exact ⟨⟨a, b, var_below h1 hb⟩, c, d, var_below h2 hb⟩
theorem numS_none_of {l : List UInt8} (h : ∀ n : Nat, n ≤ 1125899906842624 → l ≠ Lib.decDigits n) : numS l = none := by
  cases hn : numS l with
  | none => rfl
  | some n => obtain ⟨h1, h2, _⟩ := numS_some hn; exact absurd h1 (h n h2)
/-- How Atoi ends, as number sees it: a number and no error, or an error. -/
theorem atoi_any (l : List UInt8) (hl : l.length ≤ 140737488351300) (w : World) (hE : ErrK w) :
    (∃ v : Int, Lib.atoiAll l = .ok v ∧ -9223372036854775808 ≤ v ∧ v ≤ 9223372036854775807 ∧ Calls Tryd.prog 42 #[.string ⟨l.toArray⟩] w fun e w' => e = .returned (.tuple #[.int .i64 v, .nilIface]) ∧ Below w.heap.size w w') ∨
    ((∀ v, Lib.atoiAll l ≠ .ok v) ∧ Calls Tryd.prog 42 #[.string ⟨l.toArray⟩] w fun e w' => (∃ (v : Int) (N : Nat), e = .returned (.tuple #[.int .i64 v, .iface 83 (.pointer (some ⟨N, 0, none⟩))])) ∧ Below w.heap.size w w') := by
  have hsz : (⟨l.toArray⟩ : ByteArray).size = l.length := by simp [ByteArray.size]
  rcases h : Lib.atoiAll l with v | _ | _
  · left
    refine ⟨v, rfl, (Lib.atoiAll_bounds h).1, (Lib.atoiAll_bounds h).2, ?_⟩
    refine (Tryd.strconv_Atoi_ok ⟨l.toArray⟩ (by omega) v (by simpa using h) w).mono ?_
    rintro e w' ⟨rfl, h⟩
    refine ⟨rfl, ?_⟩
    rcases h with rfl | ⟨t, rfl⟩
    · exact Below.refl _ _
    · exact Lib.bytesWorld_below _ _ _
  · right
    refine ⟨(fun v hv => by cases hv), ?_⟩
    obtain ⟨tp, p, hv⟩ := hE.1
    refine (Any.strconv_Atoi_syntax_var Tryd.laysC172 ⟨l.toArray⟩ (by omega) (by simpa using h) tp p w hv).mono ?_
    rintro e w' ⟨N, rfl, _, _, hb⟩
    exact ⟨⟨_, N, rfl⟩, hb⟩
  · right
    refine ⟨(fun v hv => by cases hv), ?_⟩
    obtain ⟨tp, p, hv⟩ := hE.2
    refine (Any.strconv_Atoi_range_var Tryd.laysC172 ⟨l.toArray⟩ (by omega) (by simpa using h) tp p w hv).mono ?_
    rintro e w' ⟨N, rfl, _, _, hb⟩
    exact ⟨⟨_, N, rfl⟩, hb⟩

set_option maxHeartbeats 1000000 in
theorem number_any (l : List UInt8) (hl : l.length ≤ 140737488351300) (w : World) (hT : TabK w) (hE : ErrK w) :
    Calls Tryd.prog 37 #[.string ⟨l.toArray⟩] w fun e w' => (∃ v, e = .returned (.tuple #[v, .bool (numS l).isSome]) ∧ NumV (numS l) v) ∧ Below w.heap.size w w' := by
  rcases atoi_any l hl w hE with ⟨v, hv, hv1, hv2, c1⟩ | ⟨hno, c1⟩
  · by_cases hr : 0 ≤ v ∧ v ≤ 1125899906842624
    · obtain ⟨n, rfl⟩ := Int.eq_ofNat_of_zero_le hr.1
      have hn : n ≤ 1125899906842624 := by omega
      by_cases he : Lib.decDigits n = l
      · subst he
        rw [numS_dec hn]
        refine (number_yes n hn w hT).mono ?_
        rintro e w' ⟨⟨a, rfl, ha⟩, hb⟩
        exact ⟨⟨_, rfl, a, rfl, ha⟩, hb⟩
      · have hz : numS l = none := numS_none_of fun m hm e => by
          rw [e, atoi_dec hm] at hv
          injection hv with hv
          have : m = n := by omega
          rw [this] at e
          exact he e.symm
        rw [hz]
        have c2 := Lib.hid (fun w hT => itoa_any n hn w hT)
        replace c1 := Lib.hid c1
        obtain ⟨s, hs⟩ : ∃ s : ByteArray, s = ⟨l.toArray⟩ := ⟨_, rfl⟩
        obtain ⟨u, hu⟩ : ∃ u : ByteArray, u = ⟨(Lib.decDigits n).toArray⟩ := ⟨_, rfl⟩
        have hsu : (u.toList == s.toList) = false := by
          rw [hs, hu, ByteArray.toList_mk, ByteArray.toList_mk, beq_eq_false_iff_ne]
          exact he
        rw [← hs] at c1 ⊢
        rw [← hu] at c2
        clear hs hu hz he hv hv1 hv2 hr hE
        go_enter Tryd.func37, Tryd.ntmps37
        go_wp2_with fail
        refine c1.out.mono ?_
        rintro e w1 ⟨rfl, hb1⟩
        have hT1 := tabK_below hT hb1
        go_wp2_with fail
        refine (c2.out _ hT1).mono ?_
        rintro e w2 ⟨rfl, hb2⟩
        go_wp2
        go_ret2
        exact ⟨⟨.float .f64 0, rfl, rfl⟩, hb1.trans (hb2.mono hb1.size)⟩
    · have hz : numS l = none := numS_none_of fun m hm e => by
        rw [e, atoi_dec hm] at hv
        injection hv with hv
        omega
      rw [hz]
      replace c1 := Lib.hid c1
      generalize (⟨l.toArray⟩ : ByteArray) = s at *
      have hr2 : v < 0 ∨ (0 ≤ v ∧ 1125899906842624 < v) := by omega
      clear hz hv hE hr
      rcases hr2 with hr | ⟨hr0, hr⟩
      all_goals
        go_enter Tryd.func37, Tryd.ntmps37
        go_wp2_with fail
        refine c1.out.mono ?_
        rintro e w1 ⟨rfl, hb1⟩
        go_wp2
        go_ret2
        exact ⟨⟨.float .f64 0, rfl, rfl⟩, hb1⟩
  · have hz : numS l = none := numS_none_of fun m hm e => hno m (by rw [e]; exact atoi_dec hm)
    rw [hz]
    replace c1 := Lib.hid c1
    generalize (⟨l.toArray⟩ : ByteArray) = s at *
    clear hz hno hE
    go_enter Tryd.func37, Tryd.ntmps37
    go_wp2_with fail
    refine c1.out.mono ?_
    rintro e w1 ⟨⟨v, N, rfl⟩, hb1⟩
    go_wp2
    go_ret2
    exact ⟨⟨.float .f64 0, rfl, rfl⟩, hb1⟩

/-- What Parse answers. -/
def parseS (l : List UInt8) : Option (Nat × Nat) := match l.dropWhile (· != 58) with
  | _ :: y => match numS (l.takeWhile (· != 58)), numS y with
    | some n, some m => some (n, m)
    | _, _ => none
  | [] => none
theorem all_ne {x : List UInt8} (h : (58 : UInt8) ∉ x) : ∀ c ∈ x, (c != 58) = true := fun c hc => by
  rw [bne_iff_ne]; intro e; exact h (e ▸ hc)
theorem parseS_app (x y : List UInt8) (h : (58 : UInt8) ∉ x) : parseS (x ++ 58 :: y) = match numS x, numS y with
    | some n, some m => some (n, m)
    | _, _ => none := by
  unfold parseS
  rw [List.takeWhile_append_of_pos (all_ne h), List.dropWhile_append_of_pos (all_ne h)]
  simp
theorem parseS_none (l : List UInt8) (h : (58 : UInt8) ∉ l) : parseS l = none := by
  have h2 : l.dropWhile (· != 58) = [] := by
    have := List.dropWhile_append_of_pos (l₂ := []) (all_ne h)
    simpa using this
  unfold parseS
  rw [h2]
theorem numV_form {o : Option Nat} {v : Value} (h : NumV o v) : ∃ a, v = .float .f64 a ∧ ∀ n, o = some n → IsN a n := by
  cases o with
  | none => exact ⟨0, h, fun n hn => by cases hn⟩
  | some n =>
    obtain ⟨a, rfl, ha⟩ := h
    refine ⟨a, rfl, ?_⟩
    intro m hm
    injection hm with hm
    subst hm
    exact ha
set_option maxHeartbeats 1000000 in
theorem parse_any (l : List UInt8) (hl : l.length ≤ 140737488351232) (w : World) (hT : TabK w) (hE : ErrK w) :
    Calls Tryd.prog 29 #[.string ⟨l.toArray⟩] w fun e w' => (∃ v, e = .returned (.tuple #[v, .bool (parseS l).isSome]) ∧ JoinV (parseS l) v) ∧ Below w.heap.size w w' := by
  rcases indexByte_cases l 58 with ⟨h1, h2⟩ | ⟨x, y, rfl, h2, h3⟩
  · rw [parseS_none l h2]
    have c1 := Lib.hid (fun w => cut_no l h1 w)
    generalize (⟨l.toArray⟩ : ByteArray) = s at *
    clear h1 h2
    go_enter Tryd.func29, Tryd.ntmps29
    go_wp2_with fail
    refine (c1.out _).mono ?_
    rintro e w1 ⟨rfl, rfl⟩
    go_wp2
    go_ret2
    exact ⟨⟨.complex .f64 0 0, rfl, rfl⟩, Below.refl _ _⟩
  · have hlx : x.length ≤ 140737488351300 := by simp at hl; omega
    have hly : y.length ≤ 140737488351300 := by simp at hl; omega
    rw [parseS_app x y h2]
    have c1 := fun w => cut_yes x y (by omega) h3 w
    have c2 := fun w hT hE => number_any x hlx w hT hE
    have c3 := fun w hT hE => number_any y hly w hT hE
    generalize numS x = nx at *
    generalize numS y = ny at *
    generalize (⟨(x ++ 58 :: y).toArray⟩ : ByteArray) = s at *
    generalize (⟨x.toArray⟩ : ByteArray) = sx at *
    generalize (⟨y.toArray⟩ : ByteArray) = sy at *
    replace c1 := Lib.hid c1
    replace c2 := Lib.hid c2
    replace c3 := Lib.hid c3
    clear h2 h3 hl hlx hly
    cases nx <;> cases ny
    all_goals
      simp only [Option.isSome_none, Option.isSome_some] at c2 c3 ⊢
      go_enter Tryd.func29, Tryd.ntmps29
      go_wp2_with fail
      refine (c1.out _).mono ?_
      rintro e w1 ⟨rfl, hb1⟩
      have hT1 := tabK_below hT hb1
      have hE1 := errK_below hE hb1
      replace hE1 := Lib.hid hE1
      go_wp2_with fail
      refine (c2.out _ hT1 hE1.out).mono ?_
      rintro e w2 ⟨⟨v, rfl, ha⟩, hb2⟩
      have hT2 := tabK_below hT1 hb2
      have hE2 := errK_below hE1.out hb2
      replace hE2 := Lib.hid hE2
      obtain ⟨a, rfl, ha2⟩ := numV_form ha
      replace ha2 := Lib.hid ha2
      clear ha
      go_wp2_with fail
      refine (c3.out _ hT2 hE2.out).mono ?_
      rintro e w3 ⟨⟨v, rfl, hb⟩, hb3⟩
      obtain ⟨b, rfl, hb9⟩ := numV_form hb
      replace hb9 := Lib.hid hb9
      clear hb
      have k2 := hb1.trans (hb2.mono hb1.size)
      have k3 := k2.trans (hb3.mono k2.size)
      clear hb1 hb2 hb3 k2
      go_wp2
      go_ret2
      first
        | exact ⟨⟨.complex .f64 0 0, rfl, rfl⟩, k3⟩
        | exact ⟨⟨.complex .f64 a b, rfl, a, b, rfl, ha2.out _ rfl, hb9.out _ rfl⟩, k3⟩
end Go.Proofs.YtnkmcjkmabjfhaaDoor
