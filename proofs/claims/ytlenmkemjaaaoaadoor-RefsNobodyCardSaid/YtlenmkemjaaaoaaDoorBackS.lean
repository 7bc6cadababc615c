/- A digest's text and back, plainly. -/
import Derived.Test.YtlenmkemjaaaoaaDoorParse
namespace Go.Proofs.YtlenmkemjaaaoaaDoor

theorem hexOf_get (d : List UInt8) : ∀ (i : Nat), i < d.length → (hexOf d).getD (2 * i) 0 = hexD ((d.getD i 0).toNat / 16) ∧ (hexOf d).getD (2 * i + 1) 0 = hexD ((d.getD i 0).toNat % 16) := by
  induction d with
  | nil => intro i h; simp at h
  | cons x d ih =>
    intro i h
    have e : hexOf (x :: d) = hexD (x.toNat / 16) :: hexD (x.toNat % 16) :: hexOf d := rfl
    rw [e]
    cases i with
    | zero => exact ⟨rfl, rfl⟩
    | succ i =>
      have := ih i (by simpa using h)
      rw [show 2 * (i + 1) = 2 * i + 1 + 1 by omega]
      simp only [List.getD_cons_succ]
      exact this
theorem digitV_hexD' (n : Nat) (h : n < 16) : digitV (hexD n) = n := digitV_hexD ⟨n, h⟩
/-- The byte of two letters. -/
def pairB (l : List UInt8) (i : Nat) : UInt8 := UInt8.ofNat (digitV (l.getD (2 * i) 0)) * 16 + UInt8.ofNat (digitV (l.getD (2 * i + 1) 0))
theorem dAfter_even (l : List UInt8) : ∀ j, j ≤ 32 → dAfter l (2 * j) = (List.range j).map (pairB l) ++ List.replicate (32 - j) 0 := by
  intro j
  induction j with
  | zero => intro _; simp [dAfter]
  | succ j ih =>
    intro hj
    have h1 := ih (by omega)
    have e1 : 2 * j / 2 = j := by omega
    have e2 : (2 * j + 1) / 2 = j := by omega
    have hr : 32 - j = (32 - (j + 1)) + 1 := by omega
    rw [show 2 * (j + 1) = 2 * j + 1 + 1 by omega, dAfter, dAfter, e1, e2, h1, hr, List.replicate_succ]
    have hlen : ((List.range j).map (pairB l)).length = j := by simp
    have g1 : ((List.range j).map (pairB l) ++ (0 : UInt8) :: List.replicate (32 - (j + 1)) 0).getD j 0 = 0 := by
      rw [List.getD_eq_getElem?_getD, List.getElem?_append_right (by omega)]; simp
    have s1 : ∀ v : UInt8, ((List.range j).map (pairB l) ++ (0 : UInt8) :: List.replicate (32 - (j + 1)) 0).set j v = (List.range j).map (pairB l) ++ v :: List.replicate (32 - (j + 1)) 0 := by
      intro v
      rw [List.set_append_right _ _ (by omega), hlen]
      simp
    rw [g1, s1]
    have g2 : ∀ v : UInt8, ((List.range j).map (pairB l) ++ v :: List.replicate (32 - (j + 1)) 0).getD j 0 = v := by
      intro v
      rw [List.getD_eq_getElem?_getD, List.getElem?_append_right (by omega)]; simp
    have s2 : ∀ u v : UInt8, ((List.range j).map (pairB l) ++ u :: List.replicate (32 - (j + 1)) 0).set j v = (List.range j).map (pairB l) ++ v :: List.replicate (32 - (j + 1)) 0 := by
      intro u v
      rw [List.set_append_right _ _ (by omega), hlen]
      simp
    rw [g2, s2, List.range_succ, List.map_append]
    simp [pairB]
theorem pairB_toNat (l : List UInt8) (i : Nat) (h1 : digitV (l.getD (2 * i) 0) < 16) (h2 : digitV (l.getD (2 * i + 1) 0) < 16) : (pairB l i).toNat = digitV (l.getD (2 * i) 0) * 16 + digitV (l.getD (2 * i + 1) 0) := by
  unfold pairB
  have := (step16 ⟨digitV (l.getD (2 * i) 0), by omega⟩ ⟨digitV (l.getD (2 * i + 1) 0), h2⟩).1
  rw [this]
  simp only
  omega
theorem pd_hexOf (d : List UInt8) (hd : d.length = 32) : pok (hexOf d) = true ∧ pd (hexOf d) = d := by
  have hl : (hexOf d).length = 64 := by rw [hexOf_length, hd]
  have hdig : ∀ i, i < 32 → digitV ((hexOf d).getD (2 * i) 0) = (d.getD i 0).toNat / 16 ∧ digitV ((hexOf d).getD (2 * i + 1) 0) = (d.getD i 0).toNat % 16 := by
    intro i hi
    have hx := (d.getD i 0).toNat_lt
    obtain ⟨h1, h2⟩ := hexOf_get d i (by omega)
    rw [h1, h2]
    exact ⟨digitV_hexD' _ (by omega), digitV_hexD' _ (by omega)⟩
  have hok : pok (hexOf d) = true := pok_of hl (fun j hj => by
    have h1 := hdig (j / 2) (by omega)
    have hx := (d.getD (j / 2) 0).toNat_lt
    rcases Nat.mod_two_eq_zero_or_one j with h | h
    · rw [show j = 2 * (j / 2) by omega, h1.1]; omega
    · rw [show j = 2 * (j / 2) + 1 by omega, h1.2]; omega)
  refine ⟨hok, ?_⟩
  unfold pd
  rw [hok, if_pos rfl]
  have := dAfter_even (hexOf d) 32 (by omega)
  rw [show 2 * 32 = 64 from rfl] at this
  rw [this]
  apply List.ext_getElem
  · simp [hd]
  · intro i h1 h2
    have hi : i < 32 := by omega
    have hp := hdig i hi
    have hx := (d.getD i 0).toNat_lt
    have hpn := pairB_toNat (hexOf d) i (by rw [hp.1]; omega) (by rw [hp.2]; omega)
    rw [hp.1, hp.2] at hpn
    have : pairB (hexOf d) i = d.getD i 0 := UInt8.toNat_inj.1 (by rw [hpn]; omega)
    simp [this, h2]
theorem hexOf_pd (l : List UInt8) (h : pok l = true) : hexOf (pd l) = l := by
  have hl : l.length = 64 := by
    unfold pok at h
    simp only [Bool.and_eq_true, decide_eq_true_eq] at h
    exact h.1
  have hall : ∀ j, j < 64 → digitV (l.getD j 0) < 16 := by
    intro j hj
    unfold pok at h
    simp only [Bool.and_eq_true, List.all_eq_true, decide_eq_true_eq] at h
    have hj2 : j < l.length := by omega
    have := h.2 l[j] (List.getElem_mem hj2)
    simpa [hj2] using this
  have hpd : pd l = (List.range 32).map (pairB l) := by
    unfold pd
    rw [h, if_pos rfl]
    have := dAfter_even l 32 (by omega)
    rw [show 2 * 32 = 64 from rfl] at this
    rw [this]; simp
  have hlen : (hexOf (pd l)).length = l.length := by rw [hexOf_length, pd_length, hl]
  apply List.ext_getElem hlen
  intro j h1 h2
  have hj : j < 64 := by omega
  have hg := hexOf_get (pd l) (j / 2) (by rw [pd_length]; omega)
  have hq : (pd l).getD (j / 2) 0 = pairB l (j / 2) := by
    rw [hpd]
    have : j / 2 < 32 := by omega
    simp [this]
  have hpn := pairB_toNat l (j / 2) (hall _ (by omega)) (hall _ (by omega))
  have d1 := hall (2 * (j / 2)) (by omega)
  have d2 := hall (2 * (j / 2) + 1) (by omega)
  rw [hq, hpn] at hg
  have r : (hexOf (pd l)).getD j 0 = l.getD j 0 := by
    rcases Nat.mod_two_eq_zero_or_one j with hm | hm
    · have e : j = 2 * (j / 2) := by omega
      rw [show (digitV (l.getD (2 * (j / 2)) 0) * 16 + digitV (l.getD (2 * (j / 2) + 1) 0)) / 16 = digitV (l.getD (2 * (j / 2)) 0) by omega, hexD_digitV _ d1] at hg
      rw [← e] at hg
      exact hg.1
    · have e : j = 2 * (j / 2) + 1 := by omega
      rw [show (digitV (l.getD (2 * (j / 2)) 0) * 16 + digitV (l.getD (2 * (j / 2) + 1) 0)) % 16 = digitV (l.getD (2 * (j / 2) + 1) 0) by omega, hexD_digitV _ d2] at hg
      rw [← e] at hg
      exact hg.2
  simpa [h1, h2] using r
end Go.Proofs.YtlenmkemjaaaoaaDoor
