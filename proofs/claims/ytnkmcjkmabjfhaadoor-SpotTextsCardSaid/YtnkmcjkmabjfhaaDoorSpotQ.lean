/- The walk of the reference's Parse. -/
import Derived.Test.YtnkmcjkmabjfhaaDoorSpotD
namespace Go.Proofs.YtnkmcjkmabjfhaaDoor
open Go.RowKit

theorem split_at {l : List UInt8} {k : Nat} (h : k < l.length) (hc : l.getD k 0 = 58) : l = l.take k ++ 58 :: l.drop (k + 1) := by
  conv => lhs; rw [← List.take_append_drop k l]
  congr 1
  rw [List.drop_eq_getElem_cons h]
  rw [List.getD_eq_getElem?_getD, List.getElem?_eq_getElem h] at hc
  simp at hc
  rw [hc]
theorem not_in_succ {l : List UInt8} {k : Nat} (h : k < l.length) (h1 : (58 : UInt8) ∉ l.take k) (hc : l.getD k 0 ≠ 58) : (58 : UInt8) ∉ l.take (k + 1) := by
  rw [List.take_succ_eq_append_getElem h]
  rw [List.getD_eq_getElem?_getD, List.getElem?_eq_getElem h] at hc
  simp at hc
  simp only [List.mem_append, List.mem_singleton, not_or]
  exact ⟨h1, fun e => hc e.symm⟩
set_option maxRecDepth 100000 in
set_option maxHeartbeats 2000000 in
theorem rparse_any (l : List UInt8) (hl : l.length ≤ 140737488351232) (w : World) :
    Calls Tryd.prog 30 #[.string ⟨l.toArray⟩] w fun e w' => e = .returned (.tuple #[SV ((parseS l).getD (0, 0)), .bool (parseS l).isSome]) ∧ Below w.heap.size w w' := by
  have hsz : (⟨l.toArray⟩ : ByteArray).size = l.length := by simp [ByteArray.size]
  have hz := (zero_of_info zeros26).1
  obtain ⟨n, hn⟩ : ∃ n, n = l.length := ⟨_, rfl⟩
  rw [← hn] at hsz hl
  replace hn := Lib.hid hn
  go_enter Tryd.func30, Tryd.ntmps30
  go_wp2
  go_loopw [4] (fun i wr => ∃ k : Nat, k ≤ n ∧ i = .int .i64 (k : Int) ∧ (58 : UInt8) ∉ l.take k ∧ w.alloc (.cells #[.int .i64 0, .int .i64 0] 26) = wr) (fun i _ => n - (intOf i).toNat)
  case atStart => exact ⟨0, Nat.zero_le _, rfl, by simp, rfl⟩
  case round =>
    obtain ⟨k, hk, rfl, hno, rfl⟩ := hrel
    replace hno := Lib.hid hno
    by_cases hlt : k < n
    · have hkl : k < l.length := by rw [← hn.out]; exact hlt
      have hidx := index_str l k hkl
      by_cases hc : l.getD k 0 = 58
      · have hsp := split_at hkl hc
        have hps : parseS l = match numS (l.take k), numS (l.drop (k + 1)) with
            | some n, some m => some (n, m)
            | _, _ => none := by
          conv => lhs; rw [hsp]
          exact parseS_app _ _ hno.out
        replace hps := Lib.hid hps
        rw [hc] at hidx
        replace hidx : ∀ w, (Instr.index 9 (.string ⟨l.toArray⟩) (.int .i64 (k : Int))).run Tryd.prog w = .ok (.int .u8 58) w := hidx
        have c1 := fun w => rnumber_any (l.take k) (by rw [List.length_take, ← hn.out]; omega) w
        have c2 := fun w => rnumber_any (l.drop (k + 1)) (by rw [List.length_drop, ← hn.out]; omega) w
        have t1 := extract_take l k
        have t2 : (⟨l.toArray⟩ : ByteArray).extract (k + 1) n = ⟨(l.drop (k + 1)).toArray⟩ := by
          have := extract_drop l (k + 1)
          rwa [hsz] at this
        generalize numS (l.take k) = o1 at *
        generalize numS (l.drop (k + 1)) = o2 at *
        replace c1 := Lib.hid c1
        replace c2 := Lib.hid c2
        clear hsp hc
        cases o1 <;> cases o2
        all_goals
          simp only [Option.isSome_none, Option.isSome_some] at c1 c2
          go_wp2_with fail
          refine (c1.out _).mono ?_
          rintro e w1 ⟨⟨a, rfl, ha⟩, rfl⟩
          replace ha := Lib.hid ha
          go_wp2_with fail
          refine (c2.out _).mono ?_
          rintro e w1 ⟨⟨b, rfl, hb⟩, rfl⟩
          replace hb := Lib.hid hb
          go_wp2
          first
            | (have hp : parseS l = none := hps.out
               rw [hp]
               exact bodyPost_ret (v := .tuple #[SV (0, 0), .bool false]) (by simp [results, Tryd.results30, go_sem]) rfl ⟨rfl, (Below.refl _ _).alloc (Nat.le_refl _) _⟩)
            | (have hp : parseS l = some (a, b) := by rw [hps.out, ha.out _ rfl, hb.out _ rfl]
               rw [hp]
               exact bodyPost_ret (v := .tuple #[SV (a, b), .bool true]) (by simp [results, Tryd.results30, go_sem]) rfl ⟨rfl, (Below.refl _ _).alloc (Nat.le_refl _) _⟩)
      · have hno2 := Lib.hid (not_in_succ hkl hno.out hc)
        obtain ⟨c, hcc⟩ : ∃ c, c = l.getD k 0 := ⟨_, rfl⟩
        rw [← hcc] at hidx hc
        have hcb : (bv c == 58) = false := by rw [beq_eq_false_iff_ne]; intro h2; exact hc (bv_inj (y := 58) h2)
        clear hcc hc
        go_wp2
        go_roundw
        case rel => exact ⟨k + 1, by omega, by go_num, hno2.out, by first | rfl | trivial⟩
        case measure => simp [intOf]; omega
    · have hp : parseS l = none := parseS_none l (by
        have := hno.out
        rwa [List.take_of_length_le (by rw [← hn.out]; omega)] at this)
      replace hp := Lib.hid hp
      go_wp2
      rw [hp.out]
      exact bodyPost_ret (v := .tuple #[SV (0, 0), .bool false]) (by simp [results, Tryd.results30, go_sem]) rfl ⟨rfl, (Below.refl _ _).alloc (Nat.le_refl _) _⟩
end Go.Proofs.YtnkmcjkmabjfhaaDoor
