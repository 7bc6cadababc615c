/- The byte at the beginning of a quoted text. -/
import Derived.Test.YtamdhaoglapnnaaGreatDoorM09
import Derived.Test.YtamdhaoglapnnaaGreatDoorM03
import Derived.Test.YtamdhaoglapnnaaGreatDoorM10
section
namespace Go.Proofs.YtamdhaoglapnnaaGreatDoor
open Go.RowKit

/-- The library's error of a wrong text is there. -/
def ErrIn (w : World) : Prop := ∃ te pe, w.cell? ⟨1, 0, none⟩ = some (.iface te pe)
theorem ErrIn.below {w w' : World} (h : ErrIn w) (hb : Below w.heap.size w w') : ErrIn w' := by
  obtain ⟨te, pe, hc⟩ := h
  exact ⟨te, pe, (hb.cell (World.block_lt_of_cell? _ _ hc)).trans hc⟩
def PuTo (v : Option Nat) (w : World) (e : Ending) (w' : World) : Prop := (∃ m err, e = .returned (.tuple #[.int .u64 m, err]) ∧ (match v with | some n => m = n ∧ err = .nilIface | none => ∃ te pe, err = .iface te pe)) ∧ Below w.heap.size w w'
set_option maxRecDepth 100000 in
set_option maxHeartbeats 4000000 in
theorem pu_two (a b : UInt8) (w : World) (hE : ErrIn w) : Calls Tryz.prog 52 #[.string ⟨#[a, b]⟩, .int .i64 16, .int .i64 8] w (PuTo (hexVV a b) w) := by
  have hp := puint_two a b w
  generalize hexVV a b = v at hp ⊢
  go_enter Tryz.func52, Tryz.ntmps52
  go_wp2_with fail
  refine hp.mono ?_
  rintro e w1 ⟨⟨m, err, rfl, hv⟩, hb1⟩
  cases v with
  | some n =>
    obtain ⟨rfl, rfl⟩ := hv
    go_wp2_with fail
    refine bodyPost_ret (results_tmp2 rfl _ _ _) rfl ⟨⟨_, _, rfl, rfl, rfl⟩, hb1⟩
  | none =>
    subst hv
    obtain ⟨te, pe, hc⟩ := hE.below hb1
    have ht := Tryz.strconv_toError_syntax ⟨#[80, 97, 114, 115, 101, 85, 105, 110, 116]⟩ ⟨#[a, b]⟩ 16 8 _ w1 (by simp [ByteArray.size]) hc (.inr ⟨te, pe, rfl⟩)
    clear hc hE
    go_wp2_with fail
    refine ht.mono ?_
    rintro e w2 ⟨N, rfl, _, _, hb2⟩
    have hb2' := hb1.trans (hb2.mono hb1.size)
    go_wp2_with fail
    refine bodyPost_ret (results_tmp2 rfl _ _ _) rfl ⟨⟨_, _, rfl, _, _, rfl⟩, hb2'⟩
def OneTo (v : Option (UInt8 × Nat)) (w : World) (e : Ending) (w' : World) : Prop := e = .returned (match v with | some (c, n) => .tuple #[.int .u8 (bv c), .int .i64 (n : Int)] | none => .tuple #[.int .u8 0, .int .i64 0]) ∧ Below w.heap.size w w'
theorem ext_mid (t : Str) (i j : Nat) : (⟨t.toArray⟩ : ByteArray).extract i j = ⟨((t.take j).drop i).toArray⟩ := by
  apply ByteArray.ext
  simp [ByteArray.data_extract, List.drop_take]
theorem run_str_mid (w : World) (t : Str) (i j : Nat) (hi : i ≤ j) (hj : j ≤ t.length) : (Instr.sliceAt 9 (.string ⟨t.toArray⟩) (some (.int .i64 (i : Int))) (some (.int .i64 (j : Int))) none).run Tryz.prog w = .ok (.string ⟨((t.take j).drop i).toArray⟩) w := by
  have hs : (⟨t.toArray⟩ : ByteArray).size = t.length := strLn t
  simp [Instr.sliceAt, Instr.slice, run_underlying Tryz.underlying9, Instr.sliceBounds, run_sliceBound, hs, hi, hj, ext_mid]
abbrev IdxB (s : Str) (k : Int) (x : Int) : Prop := ∀ w, (Instr.index 9 (.string ⟨s.toArray⟩) (.int .i64 k)).run Tryz.prog w = .ok (.int .u8 x) w
set_option maxRecDepth 100000 in
set_option maxHeartbeats 4000000 in
theorem one_bare (s : Str) (x : Int) (w : World) (hi0 : IdxB s 0 x) (h : (x != 92) = true) : Calls Tryz.prog 31 #[.string ⟨s.toArray⟩] w fun e w' => e = .returned (.tuple #[.int .u8 x, .int .i64 1]) ∧ w = w' := by
  go_enter Tryz.func31, Tryz.ntmps31
  go_wp2_with fail
  go_ret2
  exact ⟨rfl, rfl⟩
set_option maxRecDepth 100000 in
set_option maxHeartbeats 4000000 in
theorem one_short (s : Str) (w : World) (hi0 : IdxB s 0 92) (hl : s.length < 2) : Calls Tryz.prog 31 #[.string ⟨s.toArray⟩] w fun e w' => e = .returned (.tuple #[.int .u8 0, .int .i64 0]) ∧ w = w' := by
  go_enter Tryz.func31, Tryz.ntmps31
  go_wp2_with fail
  go_ret2
  exact ⟨rfl, rfl⟩
set_option maxRecDepth 100000 in
set_option maxHeartbeats 4000000 in
theorem one_mark (s : Str) (x : Int) (w : World) (hi0 : IdxB s 0 92) (hl : 2 ≤ s.length) (hi1 : IdxB s 1 x) (h : (x == 34) = true ∨ ((x == 34) = false ∧ (x == 92) = true)) : Calls Tryz.prog 31 #[.string ⟨s.toArray⟩] w fun e w' => e = .returned (.tuple #[.int .u8 x, .int .i64 2]) ∧ w = w' := by
  rcases h with h | ⟨h, h'⟩
  all_goals
    go_enter Tryz.func31, Tryz.ntmps31
    go_wp2_with fail
    go_ret2
    exact ⟨rfl, rfl⟩
set_option maxRecDepth 100000 in
set_option maxHeartbeats 4000000 in
theorem one_nl (s : Str) (w : World) (hi0 : IdxB s 0 92) (hl : 2 ≤ s.length) (hi1 : IdxB s 1 110) : Calls Tryz.prog 31 #[.string ⟨s.toArray⟩] w fun e w' => e = .returned (.tuple #[.int .u8 10, .int .i64 2]) ∧ w = w' := by
  go_enter Tryz.func31, Tryz.ntmps31
  go_wp2_with fail
  go_ret2
  exact ⟨rfl, rfl⟩
set_option maxRecDepth 100000 in
set_option maxHeartbeats 4000000 in
theorem one_else (s : Str) (x : Int) (w : World) (hi0 : IdxB s 0 92) (hl : 2 ≤ s.length) (hi1 : IdxB s 1 x) (h1 : (x == 34) = false) (h2 : (x == 92) = false) (h3 : (x == 110) = false) (h4 : (x == 120) = false) : Calls Tryz.prog 31 #[.string ⟨s.toArray⟩] w fun e w' => e = .returned (.tuple #[.int .u8 0, .int .i64 0]) ∧ w = w' := by
  go_enter Tryz.func31, Tryz.ntmps31
  go_wp2_with fail
  go_ret2
  exact ⟨rfl, rfl⟩
set_option maxRecDepth 100000 in
set_option maxHeartbeats 4000000 in
theorem one_x (s : Str) (w : World) (hi0 : IdxB s 0 92) (hl : 2 ≤ s.length) (hi1 : IdxB s 1 120) (h : s.length < 4) : Calls Tryz.prog 31 #[.string ⟨s.toArray⟩] w fun e w' => e = .returned (.tuple #[.int .u8 0, .int .i64 0]) ∧ w = w' := by
  go_enter Tryz.func31, Tryz.ntmps31
  go_wp2_with fail
  go_ret2
  exact ⟨rfl, rfl⟩
theorem hexVV_lt {a b : UInt8} {n : Nat} (h : hexVV a b = some n) : n < 256 := by
  have key : ∀ c : UInt8, ∀ m, hexV c = some m → m < 16 := by
    intro c m hm
    unfold hexV at hm
    have hc := c.toNat_lt
    split at hm
    · rename_i h1
      simp only [Bool.and_eq_true, decide_eq_true_eq, UInt8.le_iff_toNat_le] at h1
      have h2 : c.toNat ≤ 57 := h1.2
      cases hm
      omega
    split at hm
    · rename_i h1
      simp only [Bool.and_eq_true, decide_eq_true_eq, UInt8.le_iff_toNat_le] at h1
      have h2 : c.toNat ≤ 102 := h1.2
      cases hm
      omega
    split at hm
    · rename_i h1
      simp only [Bool.and_eq_true, decide_eq_true_eq, UInt8.le_iff_toNat_le] at h1
      have h2 : c.toNat ≤ 70 := h1.2
      cases hm
      omega
    · cases hm
  unfold hexVV at h
  obtain ⟨x, hx, h⟩ := Option.bind_eq_some_iff.1 h
  obtain ⟨y, hy, h⟩ := Option.map_eq_some_iff.1 h
  have := key a x hx
  have := key b y hy
  omega
set_option maxRecDepth 100000 in
set_option maxHeartbeats 4000000 in
theorem one_hex (s : Str) (a b : UInt8) (w : World) (hi0 : IdxB s 0 92) (hl : 4 ≤ s.length) (hi1 : IdxB s 1 120) (he : ∀ w, (Instr.sliceAt 9 (.string ⟨s.toArray⟩) (some (.int .i64 2)) (some (.int .i64 4)) none).run Tryz.prog w = .ok (.string ⟨#[a, b]⟩) w) (hE : ErrIn w) : Calls Tryz.prog 31 #[.string ⟨s.toArray⟩] w (OneTo ((hexVV a b).map fun n => (byteN n, 4)) w) := by
  have hp := pu_two a b w hE
  have hlt := @hexVV_lt a b
  clear hE
  generalize hexVV a b = v at hp hlt ⊢
  have hl2 : 2 ≤ s.length := by omega
  go_enter Tryz.func31, Tryz.ntmps31
  go_wp2_with fail
  refine hp.mono ?_
  rintro e w1 ⟨⟨m, err, rfl, hv⟩, hb1⟩
  cases v with
  | some n =>
    obtain ⟨rfl, rfl⟩ := hv
    have h1 := hlt rfl
    have h2 : bv (byteN n) = (n : Int) := bcast n h1
    have h3 : IntKind.u8.wrap (n : Int) = n := IntWalk.u8_in _ (by omega)
    clear hlt
    go_wp2_with fail
    refine bodyPost_ret (results_tmp2 rfl _ _ _) rfl ⟨?_, hb1⟩
    simp [h2]
  | none =>
    obtain ⟨te, pe, rfl⟩ := hv
    clear hlt
    go_wp2_with fail
    refine bodyPost_ret (results_tmp2 rfl _ _ _) rfl ⟨rfl, hb1⟩
theorem u8s (c d : UInt8) : (c == d) = decide (c.toNat = d.toNat) := by
  rw [Bool.eq_iff_iff]
  simp [UInt8.toNat_inj]
theorem one_any (s : Str) (w : World) (hne : s ≠ []) (hs : s.length ≤ 140737488355328) (hE : ErrIn w) : Calls Tryz.prog 31 #[strV s] w (OneTo (oneP s) w) := by
  have hidx : ∀ (k : Nat) (h : k < s.length), IdxB s k (bv s[k]) := fun k h w => index_strB s k h w
  show Calls Tryz.prog 31 #[.string ⟨s.toArray⟩] w _
  cases s with
  | nil => exact absurd rfl hne
  | cons c r =>
    have hi0 := hidx 0 (by simp)
    simp only [List.getElem_cons_zero, Int.natCast_zero] at hi0
    by_cases hc : c = 92
    · subst hc
      cases r with
      | nil => exact (one_short _ w hi0 (by simp)).mono fun e w' ⟨he, hw⟩ => ⟨he, by rw [← hw]; exact Below.refl _ _⟩
      | cons d r =>
        have hi1 := hidx 1 (by simp)
        simp only [List.getElem_cons_succ, List.getElem_cons_zero] at hi1
        have hl2 : 2 ≤ (92 :: d :: r).length := by simp
        have hd := d.toNat_lt
        by_cases h1 : d.toNat = 34 ∨ d.toNat = 92
        · have e : oneP (92 :: d :: r) = some (d, 2) := by simp [oneP, u8s]; omega
          rw [e]
          refine (one_mark _ _ w hi0 hl2 hi1 ?_).mono fun e w' ⟨he, hw⟩ => ⟨he, by rw [← hw]; exact Below.refl _ _⟩
          unfold bv
          rcases h1 with h1 | h1
          · exact .inl (by simp [h1])
          · exact .inr (by simp [h1])
        · by_cases h2 : d.toNat = 110
          · obtain rfl : d = 110 := UInt8.toNat_inj.1 h2
            exact (one_nl _ w hi0 hl2 hi1).mono fun e w' ⟨he, hw⟩ => ⟨he, by rw [← hw]; exact Below.refl _ _⟩
          · by_cases h3 : d.toNat = 120
            · obtain rfl : d = 120 := UInt8.toNat_inj.1 h3
              have hx : ∀ t : Str, t.length < 2 → r = t → Calls Tryz.prog 31 #[.string ⟨(92 :: 120 :: r).toArray⟩] w (OneTo none w) := fun t ht e => by
                subst e
                exact (one_x _ w hi0 hl2 hi1 (by simp; omega)).mono fun e w' ⟨he, hw⟩ => ⟨he, by rw [← hw]; exact Below.refl _ _⟩
              rcases r with _ | ⟨a, _ | ⟨b, t⟩⟩
              · exact hx [] (by simp) rfl
              · exact hx [a] (by simp) rfl
              · refine one_hex _ a b w hi0 (by simp) hi1 ?_ hE
                intro w
                rw [show (⟨#[a, b]⟩ : ByteArray) = ⟨(((92 :: 120 :: a :: b :: t).take 4).drop 2).toArray⟩ from by simp]
                exact run_str_mid w _ 2 4 (by omega) (by simp)
            · have e : oneP (92 :: d :: r) = none := by
                have g1 : ¬ d.toNat = 34 := fun h => h1 (.inl h)
                have g2 : ¬ d.toNat = 92 := fun h => h1 (.inr h)
                simp [oneP, u8s, g1, g2, h2, h3]
              rw [e]
              refine (one_else _ _ w hi0 hl2 hi1 ?_ ?_ ?_ ?_).mono fun e w' ⟨he, hw⟩ => ⟨he, by rw [← hw]; exact Below.refl _ _⟩
              all_goals (unfold bv; simp; omega)
    · have hd := c.toNat_lt
      have hcn : c.toNat ≠ 92 := fun h => hc (UInt8.toNat_inj.1 h)
      have e : oneP (c :: r) = some (c, 1) := by simp [oneP, hc]
      rw [e]
      refine (one_bare _ _ w hi0 ?_).mono fun e w' ⟨he, hw⟩ => ⟨he, by rw [← hw]; exact Below.refl _ _⟩
      unfold bv
      simp
      omega
end Go.Proofs.YtamdhaoglapnnaaGreatDoor
end
section
/- The quoted text at the beginning of a text, and the bare word there. -/
namespace Go.Proofs.YtamdhaoglapnnaaGreatDoor
open Go.RowKit

/-- How far the looser scan has come. -/
def ScanAt (s : Str) (k : Nat) (p : Str) : Prop := scanD (s.drop 1) = (scanD (s.drop k)).map fun q => (p ++ q.1, (k - 1) + q.2)
theorem ScanAt.start (s : Str) : ScanAt s 1 [] := by
  unfold ScanAt
  cases scanD (s.drop 1) <;> simp
theorem head_drop {s : Str} {k : Nat} (h : k < s.length) : (s.drop k).head? = some s[k] := by
  rw [List.head?_drop, List.getElem?_eq_getElem h]
theorem drop_ne {s : Str} {k : Nat} (h : k < s.length) : s.drop k ≠ [] := fun e => by
  have := congrArg List.length e
  rw [List.length_drop] at this
  simp at this
  omega
theorem scan_next {s : Str} {c : UInt8} {n : Nat} (hne : s ≠ []) (h34 : s.head? ≠ some 34) (ho : oneP s = some (c, n)) : scanD s = (scanD (s.drop n)).map fun p => (c :: p.1, n + p.2) := by
  conv => lhs; rw [scanD]
  rw [dif_neg hne, if_neg h34]
  split
  · rename_i h
    rw [ho] at h
    cases h
  · rename_i d m h
    rw [ho] at h
    cases h
    rfl
theorem ScanAt.next {s p : Str} {k n : Nat} {c : UInt8} (h : ScanAt s k p) (hk : 1 ≤ k) (hlt : k < s.length) (h34 : s[k] ≠ 34) (ho : oneP (s.drop k) = some (c, n)) : ScanAt s (k + n) (p ++ [c]) := by
  unfold ScanAt at h ⊢
  rw [h, scan_next (drop_ne hlt) (by rw [head_drop hlt]; simpa using h34) ho, List.drop_drop]
  cases scanD (s.drop (k + n)) with
  | none => rfl
  | some q =>
    simp
    omega
theorem ScanAt.stop {s p : Str} {k : Nat} (h : ScanAt s k p) (hk : 1 ≤ k) (hlt : k < s.length) (h34 : s[k] = 34) : scanD (s.drop 1) = some (p, k) := by
  unfold ScanAt at h
  have h1 : scanD (s.drop k) = some ([], 1) := by
    rw [scanD, dif_neg (drop_ne hlt), if_pos (by rw [head_drop hlt, h34])]
  rw [h, h1]
  simp
  omega
theorem ScanAt.bad {s p : Str} {k : Nat} (h : ScanAt s k p) (hlt : k < s.length) (h34 : s[k] ≠ 34) (ho : oneP (s.drop k) = none) : scanD (s.drop 1) = none := by
  unfold ScanAt at h
  have h1 : scanD (s.drop k) = none := by
    rw [scanD, dif_neg (drop_ne hlt), if_neg (by rw [head_drop hlt]; simpa using h34)]
    split
    · rfl
    · rename_i h2
      rw [ho] at h2
      cases h2
  rw [h, h1]
  rfl
theorem ScanAt.over {s p : Str} {k : Nat} (h : ScanAt s k p) (hk : k = s.length) : scanD (s.drop 1) = none := by
  unfold ScanAt at h
  rw [h, hk, List.drop_length, scanD]
  simp
theorem own_later {w w' : World} {base : Nat} {e : TypeId} {size : Nat} {v : Value} {n : Nat} {xs : List Value} (h : w.ownsRow base e size v n xs) (hb : Below w.heap.size w w') : w'.ownsRow base e size v n xs := own_touch (L := []) h (Touch.ofBelow hb) (by simp)
/-- What the scan answers. -/
def OpTo (s : Str) (w : World) (e : Ending) (w' : World) : Prop := (∃ (t : Str) (n : Nat) (ok : Bool), e = .returned (.tuple #[strV t, .int .i64 (n : Int), .bool ok]) ∧ (match openQ s with | some (t', n') => t = t' ∧ n = n' ∧ ok = true | none => ok = false)) ∧ Below w.heap.size w w'
theorem OpTo.none {s : Str} {w w' : World} (h : openQ s = none) (hb : Below w.heap.size w w') : OpTo s w (.returned (.tuple #[.string ⟨#[]⟩, .int .i64 0, .bool false])) w' := ⟨⟨[], 0, false, rfl, by rw [h]⟩, hb⟩
theorem oneTo_cases {s : Str} {w : World} {e : Ending} {w' : World} (h : OneTo (oneP s) w e w') : Below w.heap.size w w' ∧ ((oneP s = none ∧ e = .returned (.tuple #[.int .u8 0, .int .i64 0])) ∨ ∃ c n, oneP s = some (c, n) ∧ e = .returned (.tuple #[.int .u8 (bv c), .int .i64 (n : Int)])) := by
  obtain ⟨h1, h2⟩ := h
  refine ⟨h2, ?_⟩
  cases ho : oneP s with
  | none => rw [ho] at h1; exact .inl ⟨rfl, h1⟩
  | some q => rw [ho] at h1; obtain ⟨c, n⟩ := q; exact .inr ⟨c, n, rfl, h1⟩
set_option maxRecDepth 100000 in
set_option maxHeartbeats 16000000 in
theorem opened_any (s : Str) (w : World) (hs : s.length ≤ 17592186044416) (hE : ErrIn w) : Calls Tryz.prog 18 #[strV s] w (OpTo s w) := by
  have hsz : (⟨s.toArray⟩ : ByteArray).size = s.length := strLn s
  unfold strV
  cases hs0 : s with
  | nil =>
    have hr := Lib.hid (OpTo.none (s := []) (w := w) (w' := w) rfl (Below.refl _ _))
    go_enter Tryz.func18, Tryz.ntmps18
    go_wp2_with fail
    refine bodyPost_ret (v := .tuple #[.string ⟨#[]⟩, .int .i64 0, .bool false]) (by simp [results, Tryz.results18, go_sem]) rfl hr.out
  | cons c0 r0 =>
    rw [← hs0]
    have hpos : 0 < s.length := by rw [hs0]; simp
    have hi0 := index_strB s 0 hpos
    have hne2 : s.isEmpty = false := by rw [hs0]; rfl
    have hc0 : s[0] = c0 := by simp [hs0]
    have hh : s.head? = some c0 := by rw [hs0]; rfl
    rw [hc0] at hi0
    simp only [Int.natCast_zero] at hi0
    clear hc0 hs0
    by_cases h34 : c0 = 34
    · subst h34
      have hbv : bv 34 = 34 := rfl
      rw [hbv] at hi0
      replace hh := Lib.hid hh
      replace hE := Lib.hid hE
      go_enter Tryz.func18, Tryz.ntmps18
      go_wp2_with fail
      clear hi0 hne2 hbv
      go_loopw [5, 6] (fun b i wr => ∃ (k : Nat) (p : Str) (A : Option Addr) (cp : Nat), 1 ≤ k ∧ k ≤ s.length ∧ p.length < k ∧ i = .int .i64 k ∧ b = .slice A p.length cp ∧ wr.ownsRow w.heap.size 5 1 (.slice A p.length cp) p.length (p.map B) ∧ ScanAt s k p ∧ Below w.heap.size w wr) (fun _ i _ => s.length - (intOf i).toNat)
      case atStart => exact ⟨1, [], none, 0, by omega, by omega, by simp, rfl, rfl, ⟨rfl, .inl ⟨rfl, rfl⟩⟩, ScanAt.start s, Below.refl _ _⟩
      case round =>
        obtain ⟨k, p, A, cp, hk1, hk, hp, rfl, rfl, hown, hsc, hb⟩ := hrel
        by_cases hlt : k < s.length
        · have hidx := index_strB s k hlt
          have hsz2 := hb.size
          by_cases hq : s[k] = 34
          · have hol := open_loose (hsc.stop hk1 hlt hq)
            have hbv : bv 34 = 34 := rfl
            rw [hq, hbv] at hidx
            clear hbv hq hsc
            have hs1 := fun W => run_str_to W s (k + 1) (by omega)
            rw [show ((k + 1 : Nat) : Int) = (k : Int) + 1 from rfl] at hs1
            have hrd : Rd wr (· < wr.heap.size) A (p.map B) := (own_rd hown).weak (fun b hb _ => hb)
            have hrd' := Lib.hid (fun (w' : World) (h : ∃ s : Over wr, w' = s.1) => (by obtain ⟨s, rfl⟩ := h; exact hrd.below s.2 : Rd w' (· < wr.heap.size) A (p.map B)))
            have hqt := Lib.hid (fun W => quote_any p W (by omega))
            unfold strV at hqt
            have hres : ∀ w' (ok : Bool), Below wr.heap.size wr w' → (quoteS p = s.take (k + 1) ∧ ok = true ∨ quoteS p ≠ s.take (k + 1) ∧ ok = false) → OpTo s w (.returned (.tuple #[.string ⟨p.toArray⟩, .int .i64 ((k : Int) + 1), .bool ok])) w' := by
              intro w' ok hb' ho
              refine ⟨⟨p, k + 1, ok, rfl, ?_⟩, hb.trans (hb'.mono hsz2)⟩
              rcases hol with ⟨h1, h2⟩ | ⟨h1, h2⟩
              · rw [h2]
                exact ⟨rfl, rfl, ho.elim (·.2) (fun h => absurd h1 h.1)⟩
              · rw [h2]
                exact ho.elim (fun h => absurd h.1 h1) (·.2)
            replace hres := Lib.hid hres
            replace hb := Lib.hid hb
            obtain ⟨q, hq⟩ : ∃ q, q = quoteS p := ⟨_, rfl⟩
            obtain ⟨u, hu⟩ : ∃ u, u = s.take (k + 1) := ⟨_, rfl⟩
            rw [← hq, ← hu] at hres
            rw [← hq] at hqt
            rw [← hu] at hs1
            clear hol hq hu hown hrd
            haveI := over_nonempty wr
            have e1 : IntKind.i64.wrap ((k : Int) + 1) = (k : Int) + 1 := IntWalk.i64_in _ (by omega)
            by_cases hqu : q = u
            · subst hqu
              go_wp2_with fail
              refine quiet_over (by kernel_rfl) (by kernel_rfl) ?_
              repeat (first
                | (refine wpQuiet_to_string 49 9 (.tmp 24) rfl rfl 5 Tryz.underlying49 Tryz.underlying5 Tryz.underlying9 A p cp rfl hrd'.out ?_; go_frame)
                | (refine wpQuiet_to_string 49 9 (.tmp 28) rfl rfl 5 Tryz.underlying49 Tryz.underlying5 Tryz.underlying9 A p cp rfl hrd'.out ?_; go_frame)
                | go_big_quiet_step (first | (go_at_call 12; exact calls_over _ (hqt.out _))))
              refine wpQuiet_nil ?_
              rintro _ ⟨s7, rfl⟩
              go_wp2_with fail
              refine bodyPost_ret (v := .tuple #[.string ⟨p.toArray⟩, .int .i64 ((k : Int) + 1), .bool true]) (by simp [results, Tryz.results18, go_sem]) rfl (hres.out _ _ s7.2 (.inl ⟨by first | trivial | rfl, by first | trivial | rfl⟩))
            · have hne1 : (q = u) = False := by simpa using hqu
              go_wp2_with fail
              refine quiet_over (by kernel_rfl) (by kernel_rfl) ?_
              repeat (first
                | (refine wpQuiet_to_string 49 9 (.tmp 24) rfl rfl 5 Tryz.underlying49 Tryz.underlying5 Tryz.underlying9 A p cp rfl hrd'.out ?_; go_frame)
                | (refine wpQuiet_to_string 49 9 (.tmp 28) rfl rfl 5 Tryz.underlying49 Tryz.underlying5 Tryz.underlying9 A p cp rfl hrd'.out ?_; go_frame)
                | go_big_quiet_step (first | (go_at_call 12; exact calls_over _ (hqt.out _))))
              refine wpQuiet_nil ?_
              rintro _ ⟨s7, rfl⟩
              go_wp2_with fail
              refine bodyPost_ret (v := .tuple #[.string ⟨p.toArray⟩, .int .i64 ((k : Int) + 1), .bool false]) (by simp [results, Tryz.results18, go_sem, hqu]) rfl (hres.out _ _ s7.2 (.inr ⟨by first | exact hqu | trivial, by first | trivial | rfl⟩))
          · have hbx : (bv s[k] == 34) = false := by
              have h1 : s[k].toNat ≠ 34 := fun e => hq (UInt8.toNat_inj.1 e)
              unfold bv
              simp
              omega
            have hone := one_any (s.drop k) wr (drop_ne hlt) (by rw [List.length_drop]; omega) (hE.out.below hb)
            have hs1 := fun W => run_str_from W s k (by omega)
            unfold strV at hone
            have hbad := Lib.hid (hsc.bad hlt hq)
            have hnxt := Lib.hid (fun c n => hsc.next (c := c) (n := n) hk1 hlt hq)
            clear hsc hq
            generalize bv s[k] = x at hidx hbx
            have hdl : (s.drop k).length = s.length - k := List.length_drop
            obtain ⟨u, hu⟩ : ∃ u, u = s.drop k := ⟨_, rfl⟩
            rw [← hu] at hone hs1 hbad hnxt hdl
            clear hu
            replace hone := Lib.hid hone
            replace hb := Lib.hid hb
            replace hown := Lib.hid hown
            replace hdl := Lib.hid hdl
            go_wp2_with fail
            refine hone.out.mono ?_
            rintro e w1 h1
            obtain ⟨hb1, ⟨ho, rfl⟩ | ⟨c, n, ho, rfl⟩⟩ := oneTo_cases h1
            · have hr := Lib.hid (OpTo.none (s := s) (w := w) (w' := w1) (open_none (hbad.out ho)) (hb.out.trans (hb1.mono hsz2)))
              clear hone h1 ho hnxt hb1
              go_wp2_with fail
              refine bodyPost_ret (v := .tuple #[.string ⟨#[]⟩, .int .i64 0, .bool false]) (by simp [results, Tryz.results18, go_sem]) rfl hr.out
            · obtain ⟨hl1, hl2, hl3⟩ := one_len ho
              rw [hdl.out] at hl3
              have hnx := Lib.hid (hnxt.out c n ho)
              have hn0 : ((n : Int) == 0) = false := by simp; omega
              have hown1 := hown.out
              have hb1' := hb.out.trans (hb1.mono hsz2)
              have hown2 := own_later hown1 hb1
              have hs3 := hb1.size
              clear hone h1 ho hnxt hbad hown hown1
              replace hb1' := Lib.hid hb1'
              replace hb1 := Lib.hid hb1
              go_wp2_with (at_builtin; refine wpList_append_rd _ rfl (.tmp 45) (.tmp 47) 49 rfl w.heap.size 5 (B 0) 1 1 Tryz.underlying49 info8 (.slice A p.length cp) p.length (p.map B) rfl (hown2.alloc _) (fun _ => True) (some ⟨w1.heap.size, 0, none⟩) 1 1 [.int .u8 (bv c)] rfl rfl (Rd.of_blk (cs := [.int .u8 (bv c)]) (r := []) (Blk.new_at rfl) rfl trivial) (by simp [Value.oneCell']) (by unfold maxLen; omega) (by omega) (by simp; omega) ?_; intro v' w2 hown3 hg3 hv3; obtain ⟨A3, c3, rfl, _, _⟩ := own_form hown3; replace hown3 := Lib.hid hown3; replace hg3 := Lib.hid hg3; clear hv3; go_frame)
              have hbf : Below w.heap.size w w2 := (hb1'.out.alloc (by omega) _).trans (own_below (hown2.alloc _) hg3.out (by simp; omega))
              go_roundw
              case rel => exact ⟨k + n, p ++ [c], A3, c3, by omega, by omega, by simp; omega, by go_num, by simp, by simpa using hown3.out, hnx.out, hbf⟩
              case measure => simp [intOf]; omega
        · have hr := Lib.hid (OpTo.none (s := s) (w := w) (w' := wr) (open_none (hsc.over (by omega))) hb)
          clear hsc hown hb
          go_wp2_with fail
          refine bodyPost_ret (v := .tuple #[.string ⟨#[]⟩, .int .i64 0, .bool false]) (by simp [results, Tryz.results18, go_sem]) rfl hr.out
    · have hbv : (bv c0 != 34) = true := by
        have : c0.toNat ≠ 34 := fun e => h34 (UInt8.toNat_inj.1 e)
        unfold bv
        simp
        omega
      have hr := Lib.hid (OpTo.none (s := s) (w := w) (w' := w) (by unfold openQ; rw [hh, if_neg (by simpa using h34)]) (Below.refl _ _))
      clear hh
      generalize bv c0 = x at hi0 hbv
      go_enter Tryz.func18, Tryz.ntmps18
      go_wp2_with fail
      refine bodyPost_ret (v := .tuple #[.string ⟨#[]⟩, .int .i64 0, .bool false]) (by simp [results, Tryz.results18, go_sem]) rfl hr.out
/-- How far a bare word goes. -/
def BareAt (s : Str) (k : Nat) : Prop := bareN s = k + bareN (s.drop k)
theorem BareAt.start (s : Str) : BareAt s 0 := by simp [BareAt]
theorem bare_step {s : Str} {k : Nat} (hlt : k < s.length) : bareN (s.drop k) = if bareB s[k] then bareN (s.drop (k + 1)) + 1 else 0 := by
  rw [List.drop_eq_getElem_cons hlt]
  unfold bareN
  rw [List.takeWhile_cons]
  split
  · simp
  · rfl
theorem BareAt.next {s : Str} {k : Nat} (h : BareAt s k) (hlt : k < s.length) (hb : bareB s[k] = true) : BareAt s (k + 1) := by
  unfold BareAt at h ⊢
  rw [h, bare_step hlt, if_pos hb]
  omega
theorem BareAt.stop {s : Str} {k : Nat} (h : BareAt s k) (hlt : k < s.length) (hb : bareB s[k] = false) : bareN s = k := by
  unfold BareAt at h
  rw [h, bare_step hlt, if_neg (by simp [hb])]
  rfl
theorem BareAt.over {s : Str} {k : Nat} (h : BareAt s k) (hk : k = s.length) : bareN s = k := by
  unfold BareAt at h
  rw [h, hk, List.drop_length]
  rfl
theorem bareB_cases (c : UInt8) : (bareB c = true ∧ (bv c == 34) = false ∧ decide (bv c ≤ 32) = false ∧ decide (126 < bv c) = false) ∨ (bareB c = false ∧ ((bv c == 34) = true ∨ ((bv c == 34) = false ∧ (decide (bv c ≤ 32) = true ∨ (decide (bv c ≤ 32) = false ∧ decide (126 < bv c) = true))))) := by
  unfold bareB bv
  have e1 : (c != 34) = decide (c.toNat ≠ 34) := by
    rw [Bool.eq_iff_iff]
    simp [← UInt8.toNat_inj]
  rw [e1]
  simp only [UInt8.lt_iff_toNat_lt, UInt8.le_iff_toNat_le]
  rw [show (32 : UInt8).toNat = 32 from rfl, show (126 : UInt8).toNat = 126 from rfl]
  generalize c.toNat = x
  by_cases h1 : x = 34
  · simp [h1]
  by_cases h2 : x ≤ 32
  · right; simp; omega
  by_cases h3 : 126 < x
  · right; simp; omega
  · left; simp; omega
set_option maxRecDepth 100000 in
set_option maxHeartbeats 8000000 in
theorem bare_any (s : Str) (w : World) (hs : s.length ≤ 140737488355328) : Calls Tryz.prog 19 #[strV s] w fun e w' => e = .returned (.int .i64 (bareN s : Int)) ∧ w = w' := by
  have hsz : (⟨s.toArray⟩ : ByteArray).size = s.length := strLn s
  unfold strV
  go_enter Tryz.func19, Tryz.ntmps19
  go_wp2_with fail
  go_step3
  go_wp2_with fail
  go_step3
  go_wp2_with fail
  go_loop [3] (fun i => ∃ k : Nat, k ≤ s.length ∧ i = .int .i64 k ∧ BareAt s k) (fun i => s.length - (intOf i).toNat)
  case atStart => exact ⟨0, Nat.zero_le _, rfl, BareAt.start s⟩
  case round =>
    obtain ⟨k, hk, rfl, hB⟩ := hrel
    by_cases hlt : k < s.length
    · have hidx := index_strB s k hlt
      rcases bareB_cases s[k] with ⟨hb, h1, h2, h3⟩ | ⟨hb, h⟩
      · have hn := Lib.hid (hB.next hlt hb)
        clear hB hb
        generalize bv s[k] = x at hidx h1 h2 h3
        go_wp2_with fail
        refine ⟨⟨k + 1, by omega, by go_num, hn.out⟩, ?_⟩
        simp [intOf]
        omega
      · have hn := Lib.hid (hB.stop hlt hb)
        clear hB hb
        generalize bv s[k] = x at hidx h
        rcases h with h | ⟨h, h' | ⟨h', h''⟩⟩
        all_goals go_wp2_with fail
        all_goals go_returns
        all_goals exact ⟨by rw [hn.out]; rfl, rfl⟩
    · have hn := Lib.hid (hB.over (by omega))
      clear hB
      go_wp2_with fail
      go_returns
      exact ⟨by rw [hn.out]; rfl, rfl⟩
end Go.Proofs.YtamdhaoglapnnaaGreatDoor
end
