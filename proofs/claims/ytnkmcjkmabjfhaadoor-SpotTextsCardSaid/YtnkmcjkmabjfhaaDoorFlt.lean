/- Floats that stand for whole numbers: their order, sums, floors and conversions. Plain. -/
import GoSem.Core.Float
namespace Go.Proofs.YtnkmcjkmabjfhaaDoor
open Ieee

theorem read_place {x : Nat} {s m i} (h : double.read x = .number s m i) : -1074 ≤ i := by
  have hl : double.leastPlace = -1074 := by decide
  unfold Format.read at h
  simp only [hl] at h
  split at h
  · injection h with _ _ h; omega
  · split at h
    · injection h with _ _ h; omega
    · split at h <;> cases h

/-- The word x stands for the whole number n, not below nought (a zero of either sign is nought). -/
def IsN (x n : Nat) : Prop := ∃ s m i, double.read x = .number s m i ∧ (s = true → m = 0) ∧ m * 2 ^ i.toNat = n * 2 ^ (-i).toNat

theorem signed_val {s : Bool} {m : Nat} (u : Nat) (hs : s = true → m = 0) : signed s m u = ((m * 2 ^ u : Nat) : Int) := by
  unfold signed
  rw [Nat.shiftLeft_eq]
  split
  · rename_i h; rw [hs h]; simp
  · rfl

theorem scaled {m n : Nat} {i b : Int} (h : m * 2 ^ i.toNat = n * 2 ^ (-i).toNat) (hb : b ≤ i) : m * 2 ^ (i - b).toNat * 2 ^ b.toNat = n * 2 ^ (-b).toNat := by
  by_cases h1 : 0 ≤ b
  · have e1 : (-i).toNat = 0 := by omega
    have e2 : (-b).toNat = 0 := by omega
    have e3 : i.toNat = (i - b).toNat + b.toNat := by omega
    rw [e1] at h; rw [e2, Nat.mul_assoc, ← Nat.pow_add, ← e3, h]
  · by_cases h2 : 0 ≤ i
    · have e1 : (-i).toNat = 0 := by omega
      have e2 : b.toNat = 0 := by omega
      have e3 : (i - b).toNat = i.toNat + (-b).toNat := by omega
      rw [e1, Nat.pow_zero, Nat.mul_one] at h
      rw [e2, e3, Nat.pow_add, ← Nat.mul_assoc, h]; simp
    · have e1 : i.toNat = 0 := by omega
      have e2 : b.toNat = 0 := by omega
      have e3 : (-b).toNat = (-i).toNat + (i - b).toNat := by omega
      rw [e1, Nat.pow_zero, Nat.mul_one] at h
      rw [e2, e3, h, Nat.pow_add, Nat.pow_zero, Nat.mul_one, Nat.mul_assoc]

theorem two_pos (k : Nat) : 0 < 2 ^ k := Nat.two_pow_pos k
theorem cmp_nat (a b : Nat) : compare (a : Int) (b : Int) = compare a b := by
  simp only [compare, compareOfLessAndEq]
  by_cases h : a < b
  · simp [h]
  · by_cases h2 : a = b
    · simp [h2]
    · have : ¬ ((a : Int) = b) := by omega
      simp [h, h2, this]
theorem cmp_mul (a b p : Nat) (hp : 0 < p) : compare (a * p) (b * p) = compare a b := by
  simp only [compare, compareOfLessAndEq]
  by_cases h : a < b
  · simp [h, Nat.mul_lt_mul_of_pos_right h hp]
  · by_cases h2 : a = b
    · simp [h2]
    · have h3 : ¬ a * p < b * p := by
        have := Nat.mul_le_mul_right p (show b ≤ a by omega); omega
      have h4 : ¬ a * p = b * p := fun e => h2 (Nat.eq_of_mul_eq_mul_right hp e)
      simp [h, h2, h3, h4]
theorem cmp_scale {m1 m2 a b p q : Nat} (h1 : m1 * p = a * q) (h2 : m2 * p = b * q) (hp : 0 < p) (hq : 0 < q) : compare m1 m2 = compare a b := by
  rw [← cmp_mul m1 m2 p hp, h1, h2, cmp_mul a b q hq]

theorem order_isN {x y a b : Nat} (hx : IsN x a) (hy : IsN y b) : double.order x y = some (compare a b) := by
  obtain ⟨s, m, i, h1, h2, h3⟩ := hx
  obtain ⟨t, k, j, g1, g2, g3⟩ := hy
  unfold Format.order
  rw [h1, g1]
  simp only [Datum.order, signed_val _ h2, signed_val _ g2, cmp_nat]
  congr 1
  exact cmp_scale (scaled h3 (by omega)) (scaled g3 (by omega)) (two_pos _) (two_pos _)

theorem cmp_eq (a b : Nat) : (some (compare a b) == some Ordering.eq) = decide (a = b) := by
  simp only [compare, compareOfLessAndEq]
  by_cases h : a < b
  · have : a ≠ b := by omega
    simp [h, this]
  · by_cases h2 : a = b <;> simp [h2]
    simp [h]
theorem cmp_lt (a b : Nat) : (some (compare a b) == some Ordering.lt) = decide (a < b) := by
  simp only [compare, compareOfLessAndEq]
  by_cases h : a < b
  · simp [h]
  · by_cases h2 : a = b <;> simp [h2]
    simp [h]
theorem cmp_gt (a b : Nat) : (some (compare a b) == some Ordering.gt) = decide (b < a) := by
  simp only [compare, compareOfLessAndEq]
  by_cases h : a < b
  · have : ¬ b < a := by omega
    simp [h, this]
  · by_cases h2 : a = b <;> simp [h2]
    simp [h]; omega

/-- What a cut leaves where nothing is rounded. -/
theorem cut_low (n drop : Nat) : n / (1 <<< min drop (n.log2 + 2)) = n / 2 ^ drop := by
  rw [Nat.shiftLeft_eq, Nat.one_mul]
  rcases Nat.le_total drop (n.log2 + 2) with h | h
  · rw [Nat.min_eq_left h]
  · rw [Nat.min_eq_right h]
    have h1 : n < 2 ^ (n.log2 + 1) := Nat.lt_log2_self
    have h2 : 2 ^ (n.log2 + 1) ≤ 2 ^ (n.log2 + 2) := Nat.pow_le_pow_right (by decide) (by omega)
    have h3 : 2 ^ (n.log2 + 2) ≤ 2 ^ drop := Nat.pow_le_pow_right (by decide) h
    rw [Nat.div_eq_of_lt (by omega), Nat.div_eq_of_lt (by omega)]
theorem cut_zero (neg : Bool) (n drop : Nat) : Toward.zero.cut neg n drop = n / 2 ^ drop := by
  simp only [Toward.cut, Bool.toNat_false, Nat.add_zero, cut_low]
theorem cut_down (n drop : Nat) : Toward.down.cut false n drop = n / 2 ^ drop := by
  simp only [Toward.cut, Bool.false_and, Bool.toNat_false, Nat.add_zero, cut_low]
theorem cut_nought (way : Toward) (neg : Bool) (drop : Nat) : way.cut neg 0 drop = 0 := by
  have h : 0 < (1 <<< min drop (Nat.log2 0 + 2)) := by rw [Nat.shiftLeft_eq]; exact Nat.mul_pos (by decide) (two_pos _)
  cases way <;> simp [Toward.cut]
theorem cut_even_exact (neg : Bool) (q drop : Nat) : Toward.even.cut neg (q * 2 ^ drop) drop = q := by
  by_cases hq : q = 0
  · subst hq; rw [Nat.zero_mul]; exact cut_nought _ _ _
  have hl : drop ≤ (q * 2 ^ drop).log2 := by
    have : 2 ^ drop ≤ q * 2 ^ drop := Nat.le_mul_of_pos_left _ (by omega)
    exact (Nat.le_log2 (Nat.ne_of_gt (Nat.mul_pos (by omega) (two_pos drop)))).2 this
  have hm : min drop ((q * 2 ^ drop).log2 + 2) = drop := Nat.min_eq_left (by omega)
  simp only [Toward.cut, hm, Nat.shiftLeft_eq, Nat.one_mul, Nat.mul_mod_left, Nat.mul_zero, Nat.mul_div_cancel _ (two_pos drop)]
  simp

/-- The word of a whole number above nought and below 2^53. -/
def rungN (n : Nat) : Nat := (n.log2 + 1022) * 2 ^ 52 + n * 2 ^ (52 - n.log2)
theorem log2_lt {n : Nat} (h0 : 0 < n) (h : n < 2 ^ 53) : n.log2 ≤ 52 := by
  have := (Nat.log2_lt (by omega)).2 h
  omega
theorem log2_pow {n k : Nat} (h0 : 0 < n) : (n * 2 ^ k).log2 = n.log2 + k := by
  have h1 : n < 2 ^ (n.log2 + 1) := Nat.lt_log2_self
  have h2 : 2 ^ n.log2 ≤ n := Nat.log2_self_le (by omega)
  have hp : 0 < n * 2 ^ k := Nat.mul_pos h0 (two_pos k)
  have h3 : n.log2 + k ≤ (n * 2 ^ k).log2 := (Nat.le_log2 (by omega)).2 (by rw [Nat.pow_add]; exact Nat.mul_le_mul_right _ h2)
  have h4 : (n * 2 ^ k).log2 < n.log2 + k + 1 := (Nat.log2_lt (by omega)).2 (by
    rw [show n.log2 + k + 1 = (n.log2 + 1) + k by omega, Nat.pow_add]; exact Nat.mul_lt_mul_of_pos_right h1 (two_pos k))
  omega
theorem kept_bounds {n : Nat} (h0 : 0 < n) (h : n < 2 ^ 53) : 2 ^ 52 ≤ n * 2 ^ (52 - n.log2) ∧ n * 2 ^ (52 - n.log2) < 2 ^ 53 := by
  have hl := log2_lt h0 h
  have h1 : n < 2 ^ (n.log2 + 1) := Nat.lt_log2_self
  have h2 : 2 ^ n.log2 ≤ n := Nat.log2_self_le (by omega)
  constructor
  · calc 2 ^ 52 = 2 ^ n.log2 * 2 ^ (52 - n.log2) := by rw [← Nat.pow_add]; congr 1; omega
      _ ≤ _ := Nat.mul_le_mul_right _ h2
  · calc n * 2 ^ (52 - n.log2) < 2 ^ (n.log2 + 1) * 2 ^ (52 - n.log2) := Nat.mul_lt_mul_of_pos_right h1 (two_pos _)
      _ = 2 ^ 53 := by rw [← Nat.pow_add]; congr 1; omega
theorem rungN_lt {n : Nat} (h0 : 0 < n) (h : n < 2 ^ 53) : rungN n < 1076 * 2 ^ 52 := by
  have hl := log2_lt h0 h
  have hk := kept_bounds h0 h
  unfold rungN
  omega
theorem bin_d : double.binade = 2 ^ 52 := rfl
theorem inf_d : double.infRung = 2047 * 2 ^ 52 := by decide
theorem sw_d : double.signWeight = 2 ^ 63 := by decide
theorem lp_d : double.leastPlace = -1074 := by decide
theorem fb_d : double.fractionBits = 52 := rfl
theorem read_rung (s : Bool) {n : Nat} (h0 : 0 < n) (h : n < 2 ^ 53) : double.read (double.word s (rungN n)) = .number s (n * 2 ^ (52 - n.log2)) ((n.log2 : Int) - 52) := by
  have hl := log2_lt h0 h
  have hk := kept_bounds h0 h
  have hr := rungN_lt h0 h
  have e1 : double.word s (rungN n) % 2 ^ 63 = rungN n := by unfold Format.word; rw [sw_d]; split <;> omega
  have e2 : (double.word s (rungN n) / 2 ^ 63 % 2 == 1) = s := by
    unfold Format.word; rw [sw_d]
    cases s
    · simp; omega
    · simp; omega
  unfold Format.read
  simp only [sw_d, e1, e2, bin_d, inf_d, lp_d]
  have hge : ¬ rungN n < 2 ^ 52 := by unfold rungN; omega
  have hlt : rungN n < 2047 * 2 ^ 52 := by omega
  rw [if_neg hge, if_pos hlt]
  have em : rungN n % 2 ^ 52 = n * 2 ^ (52 - n.log2) - 2 ^ 52 := by unfold rungN; omega
  have ed : rungN n / 2 ^ 52 = n.log2 + 1023 := by unfold rungN; omega
  rw [em, ed]
  have ea : 2 ^ 52 + (n * 2 ^ (52 - n.log2) - 2 ^ 52) = n * 2 ^ (52 - n.log2) := by omega
  have eb : (-1074 : Int) + ((n.log2 + 1023 - 1 : Nat) : Int) = (n.log2 : Int) - 52 := by omega
  rw [ea, eb]
theorem nearest_exact (s : Bool) {mag n : Nat} {place : Int} (h0 : 0 < n) (h : n < 2 ^ 53) (he : mag * 2 ^ place.toNat = n * 2 ^ (-place).toNat) : double.nearest s mag place = double.word s (rungN n) := by
  have hl := log2_lt h0 h
  have hk := kept_bounds h0 h
  have hr := rungN_lt h0 h
  have hm0 : 0 < mag := by
    rcases Nat.eq_zero_or_pos mag with h1 | h1
    · rw [h1, Nat.zero_mul] at he
      have := Nat.mul_pos h0 (two_pos (-place).toNat)
      omega
    · exact h1
  have hlog : place + mag.log2 = n.log2 := by
    have := congrArg Nat.log2 he
    rw [log2_pow hm0, log2_pow h0] at this
    omega
  unfold Format.nearest
  rw [if_neg (by omega)]
  simp only [fb_d, lp_d, bin_d, inf_d]
  have hlast : max (place + (mag.log2 : Int) - (52 : Nat)) (-1074) = (n.log2 : Int) - 52 := by omega
  simp only [hlast]
  have hcut : Toward.even.cut s (mag <<< (place - ((n.log2 : Int) - 52)).toNat) (((n.log2 : Int) - 52) - place).toNat = n * 2 ^ (52 - n.log2) := by
    rw [Nat.shiftLeft_eq]
    by_cases hp : (n.log2 : Int) - 52 ≤ place
    · have e1 : (((n.log2 : Int) - 52) - place).toNat = 0 := by omega
      have := scaled he hp
      have e2 : ((n.log2 : Int) - 52).toNat = 0 := by omega
      have e3 : (-((n.log2 : Int) - 52)).toNat = 52 - n.log2 := by omega
      rw [e2, e3, Nat.pow_zero, Nat.mul_one] at this
      rw [e1, this]
      have := cut_even_exact s (n * 2 ^ (52 - n.log2)) 0
      simpa using this
    · have e1 : (place - ((n.log2 : Int) - 52)).toNat = 0 := by omega
      have e2 : place.toNat = 0 := by omega
      rw [e2, Nat.pow_zero, Nat.mul_one] at he
      have e3 : (-place).toNat = (52 - n.log2) + (((n.log2 : Int) - 52) - place).toNat := by omega
      rw [e1, Nat.pow_zero, Nat.mul_one, he, e3, Nat.pow_add, ← Nat.mul_assoc]
      exact cut_even_exact _ _ _
  rw [hcut]
  have e1 : ((n.log2 : Int) - 52 - -1074).toNat = n.log2 + 1022 := by omega
  have hle : rungN n ≤ 2047 * 2 ^ 52 := by omega
  rw [e1, show (n.log2 + 1022) * 2 ^ 52 + n * 2 ^ (52 - n.log2) = rungN n from rfl, Nat.min_eq_left hle]
theorem isN_rung (s : Bool) {n : Nat} (h0 : 0 < n) (h : n < 2 ^ 53) (hs : s = false) : IsN (double.word s (rungN n)) n := by
  have hl := log2_lt h0 h
  refine ⟨s, _, _, read_rung s h0 h, ?_, ?_⟩
  · intro e; rw [hs] at e; cases e
  have e1 : ((n.log2 : Int) - 52).toNat = 0 := by omega
  have e2 : (-((n.log2 : Int) - 52)).toNat = 52 - n.log2 := by omega
  rw [e1, e2, Nat.pow_zero, Nat.mul_one]
theorem isN_zero (s : Bool) : IsN (double.word s 0) 0 := by
  refine ⟨s, 0, -1074, ?_, fun _ => rfl, by rw [Nat.zero_mul, Nat.zero_mul]⟩
  cases s <;> decide
/-- A sum, a floor, a conversion that comes to a whole number is written as that number. -/
theorem isN_write (s : Bool) {mag n : Nat} {place : Int} (h : n < 2 ^ 53) (hs : s = true → n = 0) (he : mag * 2 ^ place.toNat = n * 2 ^ (-place).toNat) : IsN (double.write (.number s mag place)) n := by
  unfold Format.write
  simp only
  by_cases h0 : n = 0
  · subst h0
    have : mag = 0 := by
      rw [Nat.zero_mul] at he
      rcases Nat.mul_eq_zero.1 he with h1 | h1
      · exact h1
      · have := two_pos place.toNat; omega
    subst this
    unfold Format.nearest
    rw [if_pos rfl]
    exact isN_zero s
  · have hsf : s = false := by cases s <;> simp_all
    rw [nearest_exact s (by omega) h he]
    exact isN_rung s (by omega) h hsf

theorem add_isN {x y a b : Nat} (hx : IsN x a) (hy : IsN y b) (h : a + b < 2 ^ 53) : ∃ z, double.add x y = some z ∧ IsN z (a + b) := by
  obtain ⟨s, m, i, h1, h2, h3⟩ := hx
  obtain ⟨t, k, j, g1, g2, g3⟩ := hy
  unfold Format.add
  rw [h1, g1]
  simp only [Datum.sum, signed_val _ h2, signed_val _ g2, Option.map_some]
  refine ⟨_, rfl, ?_⟩
  have e1 := scaled h3 (show min i j ≤ i by omega)
  have e2 := scaled g3 (show min i j ≤ j by omega)
  generalize min i j = c at e1 e2 ⊢
  generalize m * 2 ^ (i - c).toNat = M at e1 ⊢
  generalize k * 2 ^ (j - c).toNat = K at e2 ⊢
  have e3 : ((M : Int) + (K : Int)).natAbs = M + K := by omega
  rw [e3]
  refine isN_write _ h ?_ (by rw [Nat.add_mul, Nat.add_mul, e1, e2])
  intro hs
  by_cases hz : (M : Int) + K = 0
  · have hM : M = 0 := by omega
    have hK : K = 0 := by omega
    rw [hM, Nat.zero_mul] at e1
    rw [hK, Nat.zero_mul] at e2
    have p1 := two_pos (-c).toNat
    rcases Nat.mul_eq_zero.1 e1.symm with h5 | h5
    · rcases Nat.mul_eq_zero.1 e2.symm with h6 | h6
      · omega
      · omega
    · omega
  · rw [if_neg hz] at hs
    have := of_decide_eq_true hs
    omega

/-- The whole part of a number that is not below nought. -/
def wholeOf (m : Nat) (i : Int) : Nat := m * 2 ^ i.toNat / 2 ^ (-i).toNat
/-- A word as a part of a spot: a whole number from 0 to 2^50. -/
def partOf (x : Nat) : Option Nat := match double.read x with
  | .number s m i => if (s && m != 0) then none else if m * 2 ^ i.toNat = wholeOf m i * 2 ^ (-i).toNat ∧ wholeOf m i ≤ 2 ^ 50 then some (wholeOf m i) else none
  | _ => none
theorem partOf_isN {x n : Nat} (h : partOf x = some n) : IsN x n ∧ n ≤ 2 ^ 50 := by
  unfold partOf at h
  split at h
  · rename_i s m i hr
    split at h
    · cases h
    · rename_i hs
      split at h
      · rename_i hw
        injection h with h
        subst h
        refine ⟨⟨s, m, i, hr, fun e => ?_, hw.1⟩, hw.2⟩
        subst e
        simpa using hs
      · cases h
  · cases h
theorem isN_partOf {x n : Nat} (h : IsN x n) (hn : n ≤ 2 ^ 50) : partOf x = some n := by
  obtain ⟨s, m, i, h1, h2, h3⟩ := h
  unfold partOf
  rw [h1]
  have hq : wholeOf m i = n := by
    unfold wholeOf; rw [h3]; exact Nat.mul_div_cancel _ (two_pos _)
  have hs : ¬ ((s && m != 0) = true) := by
    cases s
    · simp
    · simp [h2 rfl]
  simp only [hq]
  rw [if_neg hs, if_pos ⟨h3, hn⟩]
theorem isN_inj {x a b : Nat} (h : IsN x a) (g : IsN x b) : a = b := by
  obtain ⟨s, m, i, h1, h2, h3⟩ := h
  obtain ⟨t, k, j, g1, g2, g3⟩ := g
  rw [h1] at g1
  injection g1 with _ e1 e2
  subst e1; subst e2
  rw [h3] at g3
  exact Nat.eq_of_mul_eq_mul_right (two_pos _) g3

theorem isN_nearest {n : Nat} (h : n < 2 ^ 53) : IsN (Go.FloatKind.f64.nearest (n : Int)) n := by
  show IsN (double.write (.number (decide ((n : Int) < 0)) (n : Int).natAbs 0)) n
  refine isN_write _ h (fun e => ?_) (by simp)
  have := of_decide_eq_true e
  omega

/-- Where a number stands to nought and to 2^50. -/
theorem order_zero {x : Nat} {s m i} (hr : double.read x = .number s m i) : double.order x 0 = some (if s && m != 0 then .lt else if m = 0 then .eq else .gt) := by
  have h0 : double.read 0 = .number false 0 (-1074) := by decide
  have hp := read_place hr
  unfold Format.order
  rw [hr, h0]
  have hb : min i (-1074) = -1074 := by omega
  simp only [Datum.order, hb]
  generalize (i - -1074).toNat = u
  have hz : signed false 0 ((-1074 : Int) - -1074).toNat = 0 := rfl
  rw [hz]
  congr 1
  unfold signed
  rw [Nat.shiftLeft_eq]
  have hu := two_pos u
  by_cases hm : m = 0
  · subst hm; cases s <;> simp
  · have hpos : 0 < m * 2 ^ u := Nat.mul_pos (by omega) hu
    generalize m * 2 ^ u = M at hpos
    cases s
    · simp only [Bool.false_and, Bool.false_eq_true, if_false, if_neg hm, compare, compareOfLessAndEq]
      rw [if_neg (by omega), if_neg (by omega)]
    · have : (m != 0) = true := by simp [hm]
      simp only [this, Bool.and_self, if_true, compare, compareOfLessAndEq]
      rw [if_pos (by omega)]
def mostF : Nat := Go.FloatKind.f64.nearest (1125899906842624 : Int)
theorem read_most : double.read mostF = .number false 4503599627370496 (-2) := by decide
theorem order_most {x : Nat} {s m i} (hr : double.read x = .number s m i) (hs : s = true → m = 0) : double.order x mostF = some (compare (m * 2 ^ i.toNat) (1125899906842624 * 2 ^ (-i).toNat)) := by
  unfold Format.order
  rw [hr, read_most]
  have hf : ∀ u, signed false 4503599627370496 u = ((4503599627370496 * 2 ^ u : Nat) : Int) := fun u => signed_val u (fun e => by cases e)
  simp only [Datum.order, signed_val _ hs, hf, cmp_nat]
  congr 1
  have hp : (4503599627370496 : Nat) = 1125899906842624 * 4 := rfl
  by_cases h : i ≤ -2
  · have hb : min i (-2) = i := by omega
    rw [hb]
    have e1 : (i - i).toNat = 0 := by omega
    have e2 : i.toNat = 0 := by omega
    have e3 : (-i).toNat = 2 + (-2 - i).toNat := by omega
    have e4 : (1125899906842624 : Nat) * 2 ^ (2 + (-2 - i).toNat) = 4503599627370496 * 2 ^ (-2 - i).toNat := by
      rw [Nat.pow_add, ← Nat.mul_assoc]
    rw [e1, e2, e3, e4]
  · have hb : min i (-2) = -2 := by omega
    rw [hb]
    have e1 : (-2 - -2 : Int).toNat = 0 := rfl
    rw [e1]
    have e2 : (i - -2).toNat + (-i).toNat = i.toNat + 2 := by omega
    refine cmp_scale (p := 2 ^ (-i).toNat) (q := 4) ?_ ?_ (two_pos _) (by decide)
    · rw [Nat.mul_assoc, ← Nat.pow_add, e2, Nat.pow_add, ← Nat.mul_assoc]
    · rw [Nat.pow_zero, Nat.mul_one, hp, Nat.mul_assoc, Nat.mul_comm 4, Nat.mul_assoc]
theorem pow50 : (2 : Nat) ^ 50 = 1125899906842624 := rfl
/-- The floor of a number from 0 to 2^50. -/
def floorW (x : Nat) : Nat := double.write ((double.read x).integral .down)
theorem integral_down {s : Bool} {m : Nat} {i : Int} (hs : s = true → m = 0) : (Datum.number s m i).integral .down = .number s (wholeOf m i) 0 := by
  simp only [Datum.integral, Nat.shiftLeft_eq]
  congr 1
  cases s
  · exact cut_down _ _
  · rw [hs rfl, Nat.zero_mul, cut_nought]
    simp [wholeOf]
theorem whole_le {m : Nat} {i : Int} (h : m * 2 ^ i.toNat ≤ 1125899906842624 * 2 ^ (-i).toNat) : wholeOf m i ≤ 1125899906842624 := by
  unfold wholeOf
  exact Nat.div_le_of_le_mul (by rw [Nat.mul_comm (2 ^ (-i).toNat)]; exact h)
theorem floor_isN {x : Nat} {s m i} (hr : double.read x = .number s m i) (hs : s = true → m = 0) (hq : wholeOf m i ≤ 1125899906842624) : IsN (floorW x) (wholeOf m i) := by
  unfold floorW
  rw [hr, integral_down hs]
  refine isN_write s (by omega) (fun e => ?_) rfl
  rw [hs e]; simp [wholeOf]
theorem order_of_isN {x y n : Nat} {s m i} (hr : double.read x = .number s m i) (hs : s = true → m = 0) (hy : IsN y n) : double.order x y = some (compare (m * 2 ^ i.toNat) (n * 2 ^ (-i).toNat)) := by
  obtain ⟨t, k, j, g1, g2, g3⟩ := hy
  unfold Format.order
  rw [hr, g1]
  simp only [Datum.order, signed_val _ hs, signed_val _ g2, cmp_nat]
  congr 1
  have hb : min i j ≤ i := by omega
  have hc : min i j ≤ j := by omega
  have e2 := scaled g3 hc
  generalize min i j = b at hb hc e2 ⊢
  -- m*2^(i-b) against k*2^(j-b), where k*2^(j-b)*2^b⁺ = n*2^b⁻
  refine cmp_scale (p := 2 ^ b.toNat * 2 ^ (-i).toNat) (q := 2 ^ (-b).toNat) ?_ ?_ (Nat.mul_pos (two_pos _) (two_pos _)) (two_pos _)
  · have e3 : (i - b).toNat + (b.toNat + (-i).toNat) = i.toNat + (-b).toNat := by omega
    rw [Nat.mul_assoc, ← Nat.pow_add, ← Nat.pow_add, e3, Nat.pow_add, ← Nat.mul_assoc]
  · rw [← Nat.mul_assoc, e2, Nat.mul_assoc, Nat.mul_comm (2 ^ (-b).toNat), ← Nat.mul_assoc]
/-- What 'whole' asks of a word. -/
def wholeB (x : Nat) : Bool := (double.order x 0 == some .gt || double.order x 0 == some .eq) && (double.order x mostF == some .lt || double.order x mostF == some .eq) && (double.order x (floorW x) == some .eq)
/-- The two tests that a word lies from 0 to 2^50. -/
def betw (x : Nat) : Bool := (double.order x 0 == some .gt || double.order x 0 == some .eq) && (double.order x mostF == some .lt || double.order x mostF == some .eq)
theorem betw_number {x : Nat} {s m i} (hr : double.read x = .number s m i) : betw x = (!(s && m != 0) && decide (m * 2 ^ i.toNat ≤ 1125899906842624 * 2 ^ (-i).toNat)) := by
  unfold betw
  rw [order_zero hr]
  by_cases hs : (s && m != 0) = true
  · simp [hs]
  · have hs' : s = true → m = 0 := fun e => by subst e; simpa using hs
    rw [order_most hr hs']
    simp only [Bool.not_eq_true] at hs
    rw [hs, cmp_lt, cmp_eq]
    have hle : (decide (m * 2 ^ i.toNat < 1125899906842624 * 2 ^ (-i).toNat) || decide (m * 2 ^ i.toNat = 1125899906842624 * 2 ^ (-i).toNat)) = decide (m * 2 ^ i.toNat ≤ 1125899906842624 * 2 ^ (-i).toNat) := by
      generalize m * 2 ^ i.toNat = a
      generalize 1125899906842624 * 2 ^ (-i).toNat = b
      rw [Bool.eq_iff_iff]; simp; omega
    rw [hle]
    by_cases hm : m = 0 <;> simp [hm]
theorem betw_other {x : Nat} (h : ∀ s m i, double.read x ≠ .number s m i) : betw x = false := by
  unfold betw Format.order
  have h0 : double.read 0 = .number false 0 (-1074) := by decide
  rw [h0, read_most]
  cases hd : double.read x with
  | number s m i => exact absurd hd (h s m i)
  | infinity s => cases s <;> simp [Datum.order]
  | nan s f => simp [Datum.order]
theorem isN_most : IsN mostF 1125899906842624 := isN_nearest (n := 1125899906842624) (by decide)
/-- Where a word lies between: the floor is the whole part; the word is a part just where it is its floor. -/
theorem betw_part {x : Nat} (h : betw x = true) : ∃ s m i, double.read x = .number s m i ∧ (s = true → m = 0) ∧ wholeOf m i ≤ 1125899906842624 ∧ ∀ y, IsN y (wholeOf m i) → (double.order x y == some .eq) = (partOf x).isSome ∧ (double.order y x == some .eq) = (partOf x).isSome := by
  cases hd : double.read x with
  | infinity s => rw [betw_other (by intro s m i e; rw [hd] at e; cases e)] at h; cases h
  | nan s f => rw [betw_other (by intro s m i e; rw [hd] at e; cases e)] at h; cases h
  | number s m i =>
    rw [betw_number hd, Bool.and_eq_true, decide_eq_true_eq] at h
    have hs : s = true → m = 0 := fun e => by subst e; simpa using h.1
    have hq := whole_le h.2
    have hp : (partOf x).isSome = decide (m * 2 ^ i.toNat = wholeOf m i * 2 ^ (-i).toNat) := by
      unfold partOf
      rw [hd]
      have hns : (s && m != 0) = false := by
        have := h.1
        cases hx : (s && m != 0) with
        | false => rfl
        | true => rw [hx] at this; cases this
      simp only [hns, pow50]
      by_cases he : m * 2 ^ i.toNat = wholeOf m i * 2 ^ (-i).toNat
      · simp [he, hq]
      · simp [he]
    refine ⟨s, m, i, rfl, hs, hq, fun y hy => ⟨?_, ?_⟩⟩
    · rw [order_of_isN hd hs hy, cmp_eq, hp]
    · have hsym : (double.order y x == some .eq) = (double.order x y == some .eq) := by
        obtain ⟨t, k, j, g1, g2, g3⟩ := hy
        unfold Format.order
        rw [hd, g1]
        simp only [Datum.order, signed_val _ hs, signed_val _ g2, cmp_nat, cmp_eq]
        rw [Int.min_comm j i]
        exact decide_eq_decide.2 ⟨Eq.symm, Eq.symm⟩
      rw [hsym, order_of_isN hd hs hy, cmp_eq, hp]
theorem betw_of_part {x n : Nat} (h : partOf x = some n) : betw x = true := by
  obtain ⟨hx, hn⟩ := partOf_isN h
  obtain ⟨s, m, i, h1, h2, h3⟩ := hx
  rw [betw_number h1, h3, Bool.and_eq_true, decide_eq_true_eq]
  refine ⟨?_, Nat.mul_le_mul_right _ hn⟩
  cases s
  · simp
  · simp [h2 rfl]
theorem part_of_not_betw {x : Nat} (h : betw x = false) : partOf x = none := by
  cases hp : partOf x with
  | none => rfl
  | some n => rw [betw_of_part hp] at h; cases h
theorem wholeB_eq (x : Nat) : wholeB x = (partOf x).isSome := by
  have e : wholeB x = (betw x && (double.order x (floorW x) == some .eq)) := rfl
  rw [e]
  cases hb : betw x with
  | false => rw [part_of_not_betw hb]; rfl
  | true =>
    obtain ⟨s, m, i, hr, hs, hq, h⟩ := betw_part hb
    rw [Bool.true_and, (h _ (floor_isN hr hs hq)).1]
theorem part_whole {x n : Nat} {s m i} (hr : double.read x = .number s m i) (h : partOf x = some n) : n = wholeOf m i := by
  obtain ⟨⟨t, k, j, h1, h2, h3⟩, hn⟩ := partOf_isN h
  rw [hr] at h1
  injection h1 with _ e1 e2
  subst e1; subst e2
  unfold wholeOf
  rw [h3]; exact (Nat.mul_div_cancel _ (two_pos _)).symm
theorem toInt_zero {s : Bool} {m : Nat} {i : Int} (hs : s = true → m = 0) : (Datum.number s m i).toInt .zero = some (wholeOf m i : Int) := by
  simp only [Datum.toInt, Datum.integral, Nat.shiftLeft_eq, cut_zero]
  rw [show m * 2 ^ i.toNat / 2 ^ (-i).toNat = wholeOf m i from rfl, signed_val]
  · simp
  · intro e; rw [hs e]; simp [wholeOf]
end Go.Proofs.YtnkmcjkmabjfhaaDoor
