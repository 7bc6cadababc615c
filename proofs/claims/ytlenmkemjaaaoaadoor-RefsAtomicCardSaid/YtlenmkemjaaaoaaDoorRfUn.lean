/- Changes back, plainly: they undo what changes have done. -/
import Derived.Test.YtlenmkemjaaaoaaDoorRs
namespace Go.Proofs.YtlenmkemjaaaoaaDoor

theorem getT_nil (n : Str) : getT [] n = [] := rfl
theorem getT_cons (b : Br) (T : Tab) (n : Str) : getT (b :: T) n = if b.name = n then b.heads else getT T n := by
  unfold getT
  rw [List.find?_cons]
  by_cases h : b.name = n
  · rw [if_pos h]
    have : (b.name == n) = true := by simpa using h
    rw [this]
  · rw [if_neg h]
    have : (b.name == n) = false := by simpa using h
    rw [this]
theorem getT_putG (n : Str) (h : List Str) : ∀ (T : Tab) (d : Bool) (m : Str), getT (putG n h d T) m = if m = n then (if d = true then [] else h) else getT T m
  | [], d, m => by
    unfold putG
    cases d with
    | true => by_cases e : m = n <;> simp [getT_nil, e]
    | false =>
      simp only [Bool.false_eq_true, if_false, getT_cons, getT_nil]
      by_cases e : m = n
      · subst e; simp
      · rw [if_neg (fun q => e q.symm), if_neg e]
  | b :: T, d, m => by
    have hd : ∀ (d' : Bool), getT ((if b.name = n then [] else [b]) ++ putG n h d' T) m = if m = n then (if d' = true then [] else h) else getT (b :: T) m := by
      intro d'
      by_cases hb : b.name = n
      · rw [if_pos hb, List.nil_append, getT_putG n h T d' m, getT_cons]
        by_cases e : m = n
        · rw [if_pos e, if_pos e]
        · rw [if_neg e, if_neg e, if_neg (fun q => e (by rw [← q, hb]))]
      · rw [if_neg hb, List.singleton_append, getT_cons, getT_putG n h T d' m, getT_cons]
        by_cases e : m = n
        · subst e; rw [if_neg hb]; simp
        · rw [if_neg e, if_neg e]
    unfold putG
    split <;> rename_i hc
    · rw [getT_cons, hd true]
      by_cases e : m = n
      · subst e; simp [hc.1]
      · rw [if_neg (fun q => e q.symm), if_neg e, if_neg e]
    · exact hd d
theorem getT_putT (T : Tab) (n : Str) (h : List Str) (m : Str) : getT (putT T n h) m = if m = n then h else getT T m := by
  unfold putT
  rw [getT_putG]
  by_cases e : m = n
  · rw [if_pos e, if_pos e]
    by_cases hh : h = []
    · simp [hh]
    · simp [hh]
  · rw [if_neg e, if_neg e]
theorem getT_far {T : Tab} {n : Str} (h : ∀ b ∈ T, b.name ≠ n) : getT T n = [] := by
  induction T with
  | nil => rfl
  | cons b T ih => rw [getT_cons, if_neg (h b (by simp)), ih (fun x hx => h x (by simp [hx]))]
/-- A table is what its names stand for. -/
theorem tab_ext : ∀ {T U : Tab}, sorted T → sorted U → (∀ b ∈ T, b.heads ≠ []) → (∀ b ∈ U, b.heads ≠ []) → (∀ n, getT T n = getT U n) → T = U
  | [], [], _, _, _, _, _ => rfl
  | [], b :: U, _, _, _, h, e => by
    have := e b.name
    rw [getT_nil, getT_cons, if_pos rfl] at this
    exact absurd this.symm (h b (by simp))
  | b :: T, [], _, _, h, _, e => by
    have := e b.name
    rw [getT_nil, getT_cons, if_pos rfl] at this
    exact absurd this (h b (by simp))
  | b :: T, c :: U, hT, hU, h1, h2, e => by
    obtain ⟨t1, t2⟩ := List.pairwise_cons.1 hT
    obtain ⟨u1, u2⟩ := List.pairwise_cons.1 hU
    have hbc : b.name = c.name := by
      apply Classical.byContradiction
      intro hne
      cases hl : lessS b.name c.name with
      | true =>
        have e1 := e b.name
        rw [getT_cons, if_pos rfl, getT_cons, if_neg (fun q => hne q.symm), getT_far (fun x hx => (fun q => by have := lessS_trans _ _ _ hl (u1 x hx); rw [q, lessS_irr] at this; cases this))] at e1
        exact h1 b (by simp) e1
      | false =>
        cases hl2 : lessS c.name b.name with
        | true =>
          have e1 := e c.name
          rw [getT_cons, if_neg hne, getT_cons, if_pos rfl, getT_far (fun x hx => (fun q => by have := lessS_trans _ _ _ hl2 (t1 x hx); rw [q, lessS_irr] at this; cases this))] at e1
          exact h2 c (by simp) e1.symm
        | false => exact hne (lessS_total _ _ hl hl2)
    have hh : b.heads = c.heads := by
      have e1 := e b.name
      rwa [getT_cons, if_pos rfl, getT_cons, if_pos hbc.symm] at e1
    have hbe : b = c := by cases b; cases c; simp_all
    subst hbe
    rw [tab_ext t2 u2 (fun x hx => h1 x (by simp [hx])) (fun x hx => h2 x (by simp [hx])) (fun n => by
      by_cases hn : b.name = n
      · subst hn
        rw [getT_far (fun x hx => (lessS_ne (t1 x hx)).symm), getT_far (fun x hx => (lessS_ne (u1 x hx)).symm)]
      · have e1 := e n
        rwa [getT_cons, if_neg hn, getT_cons, if_neg hn] at e1)]
/-- The names of changes, each once. -/
def apart (C : List Chg) : Prop := C.Pairwise fun a b => a.name ≠ b.name
theorem getT_puts : ∀ (C : List Chg) (T : Tab), apart C → (∀ c ∈ C, getT (putsT T C) c.name = c.new) ∧ ∀ n, (∀ c ∈ C, c.name ≠ n) → getT (putsT T C) n = getT T n
  | [], T, _ => ⟨fun c hc => (by cases hc), fun n _ => rfl⟩
  | c :: C, T, h => by
    obtain ⟨h1, h2⟩ := List.pairwise_cons.1 h
    obtain ⟨g1, g2⟩ := getT_puts C (putT T c.name c.new) h2
    refine ⟨fun d hd => ?_, fun n hn => ?_⟩
    · rcases List.mem_cons.1 hd with rfl | hd
      · show getT (putsT (putT T d.name d.new) C) d.name = _
        rw [g2 _ (fun x hx => (h1 x hx).symm), getT_putT, if_pos rfl]
      · exact g1 d hd
    · show getT (putsT (putT T c.name c.new) C) n = _
      rw [g2 n (fun x hx => hn x (by simp [hx])), getT_putT, if_neg (fun q => hn c (by simp) q.symm)]
theorem wrongs_zero (l : Tab) : ∀ (C ahead : List Chg), wrongsE l ahead C = 0 ↔ (∀ c ∈ C, nmOk c.name = true ∧ headsE c.new = 0 ∧ getT l c.name = c.old ∧ ∀ a ∈ ahead, a.name ≠ c.name) ∧ apart C
  | [], ahead => by simp [wrongsE, apart]
  | c :: C, ahead => by
    have hw : wrongE l ahead c = 0 ↔ nmOk c.name = true ∧ headsE c.new = 0 ∧ getT l c.name = c.old ∧ ∀ a ∈ ahead, a.name ≠ c.name := by
      unfold wrongE
      by_cases h1 : nmOk c.name = true
      · rw [if_pos h1]
        by_cases h2 : ahead.any (fun x => x.name == c.name) = true
        · rw [if_pos h2]
          constructor
          · intro h; cases h
          · rintro ⟨_, _, _, h⟩
            obtain ⟨x, hx, e⟩ := List.any_eq_true.1 h2
            exact absurd (by simpa using e) (h x hx)
        · rw [if_neg h2]
          have h2' : ∀ a ∈ ahead, a.name ≠ c.name := fun a ha e => h2 (List.any_eq_true.2 ⟨a, ha, by simpa using e⟩)
          by_cases h3 : headsE c.new = 0
          · rw [if_pos h3]
            by_cases h4 : getT l c.name = c.old
            · rw [if_pos h4]; exact ⟨fun _ => ⟨h1, h3, h4, h2'⟩, fun _ => rfl⟩
            · rw [if_neg h4]; exact ⟨fun h => (by cases h), fun h => absurd h.2.2.1 h4⟩
          · rw [if_neg h3]; exact ⟨fun h => absurd h h3, fun h => absurd h.2.1 h3⟩
      · rw [if_neg h1]; exact ⟨fun h => (by cases h), fun h => absurd h.1 h1⟩
    unfold wrongsE
    by_cases h0 : wrongE l ahead c = 0
    · rw [if_pos h0, wrongs_zero l C (ahead ++ [c])]
      have h0' := hw.1 h0
      constructor
      · rintro ⟨g1, g2⟩
        refine ⟨fun d hd => ?_, List.pairwise_cons.2 ⟨fun d hd => ?_, g2⟩⟩
        · rcases List.mem_cons.1 hd with rfl | hd
          · exact h0'
          · obtain ⟨k1, k2, k3, k4⟩ := g1 d hd
            exact ⟨k1, k2, k3, fun a ha => k4 a (by simp [ha])⟩
        · exact (g1 d hd).2.2.2 c (by simp)
      · rintro ⟨g1, g2⟩
        obtain ⟨p1, p2⟩ := List.pairwise_cons.1 g2
        refine ⟨fun d hd => ?_, p2⟩
        obtain ⟨k1, k2, k3, k4⟩ := g1 d (by simp [hd])
        refine ⟨k1, k2, k3, fun a ha => ?_⟩
        rcases List.mem_append.1 ha with ha | ha
        · exact k4 a ha
        · simp only [List.mem_singleton] at ha
          subst ha
          exact p1 d hd
    · rw [if_neg h0]
      exact ⟨fun h => absurd h h0, fun h => absurd (hw.2 (h.1 c (by simp))) h0⟩
theorem apply_zero (T : Tab) (C : List Chg) : applyE T C = 0 ↔ mayE T = 0 ∧ C.length ≤ 32 ∧ wrongsE T [] C = 0 ∧ (putsT T C).length ≤ 32 := by
  unfold applyE
  by_cases h1 : mayE T = 0
  · rw [if_pos h1]
    by_cases h2 : 32 < C.length
    · rw [if_pos h2]; exact ⟨fun h => (by cases h), fun h => by omega⟩
    · rw [if_neg h2]
      by_cases h3 : wrongsE T [] C = 0
      · rw [if_pos h3]
        by_cases h4 : 32 < (putsT T C).length
        · rw [if_pos h4]; exact ⟨fun h => (by cases h), fun h => by omega⟩
        · rw [if_neg h4]; exact ⟨fun _ => ⟨h1, by omega, h3, by omega⟩, fun _ => rfl⟩
      · rw [if_neg h3]; exact ⟨fun h => absurd h h3, fun h => absurd h.2.2.1 h3⟩
  · rw [if_neg h1]; exact ⟨fun h => absurd h h1, fun h => absurd h.1 h1⟩
def backC (C : List Chg) : List Chg := C.map fun c => ⟨c.name, c.new, c.old⟩
theorem headsE_nil : headsE [] = 0 := by decide
theorem getT_headsE {T : Tab} (h : ∀ b ∈ T, bOk b) (n : Str) : headsE (getT T n) = 0 := by
  induction T with
  | nil => exact headsE_nil
  | cons b T ih =>
    rw [getT_cons]
    split
    · exact (h b (by simp)).2.2
    · exact ih (fun x hx => h x (by simp [hx]))
theorem putsT_sorted : ∀ (C : List Chg) {T : Tab}, sorted T → sorted (putsT T C)
  | [], T, h => h
  | c :: C, T, h => by
    show sorted (putsT (putT T c.name c.new) C)
    rw [← step_put h c]
    exact putsT_sorted C (sorted_step h c)
theorem putsT_heads : ∀ (C : List Chg) {T : Tab}, sorted T → (∀ b ∈ T, b.heads ≠ []) → ∀ b ∈ putsT T C, b.heads ≠ []
  | [], T, _, h => h
  | c :: C, T, hs, h => by
    show ∀ b ∈ putsT (putT T c.name c.new) C, b.heads ≠ []
    rw [← step_put hs c]
    refine putsT_heads C (sorted_step hs c) (fun b hb => ?_)
    rcases step_mem hb with hb | ⟨rfl, hn⟩
    · exact h b hb
    · exact hn
theorem chg_mem_eq {C : List Chg} (h : apart C) {c d : Chg} (hc : c ∈ C) (hd : d ∈ C) (e : c.name = d.name) : c = d := by
  induction C with
  | nil => cases hc
  | cons a C ih =>
    obtain ⟨h1, h2⟩ := List.pairwise_cons.1 h
    rcases List.mem_cons.1 hc with e1 | k1
    · rcases List.mem_cons.1 hd with e2 | k2
      · rw [e1, e2]
      · exact absurd (by rw [← e1]; exact e) (h1 d k2)
    · rcases List.mem_cons.1 hd with e2 | k2
      · exact absurd (by rw [← e2]; exact e.symm) (h1 c k1)
      · exact ih h2 k1 k2
/-- The changes back undo what the changes have done. -/
theorem back_undoes {T : Tab} {C : List Chg} (h : applyE T C = 0) (hh : tOk T) (hc : cOk C) : applyE (applyT T C) (backC C) = 0 ∧ applyT (applyT T C) (backC C) = T := by
  obtain ⟨m1, m2⟩ := apply_may h hh hc
  have hT : applyT T C = putsT T C := by unfold applyT; rw [if_pos h]
  obtain ⟨a1, a2, a3, a4⟩ := (apply_zero T C).1 h
  obtain ⟨t1, t2, t3⟩ := (mayE_zero T).1 a1
  obtain ⟨w1, w2⟩ := (wrongs_zero T C []).1 a3
  obtain ⟨u1, u2, u3⟩ := (mayE_zero _).1 m1
  rw [hT] at m1 m2 u1 u2 u3 ⊢
  obtain ⟨g1, g2⟩ := getT_puts C T w2
  have hb2 : apart (backC C) := by
    unfold apart backC
    rw [List.pairwise_map]
    exact w2
  have hput : putsT (putsT T C) (backC C) = T := by
    obtain ⟨k1, k2⟩ := getT_puts (backC C) (putsT T C) hb2
    refine tab_ext (putsT_sorted _ u3) t3 (putsT_heads _ u3 (fun b hb => (u2 b hb).2.1)) (fun b hb => (t2 b hb).2.1) (fun n => ?_)
    by_cases hn : ∃ c ∈ C, c.name = n
    · obtain ⟨c, hc, rfl⟩ := hn
      have := k1 ⟨c.name, c.new, c.old⟩ (List.mem_map.2 ⟨c, hc, rfl⟩)
      dsimp only at this
      rw [this, (w1 c hc).2.2.1]
    · have h1 : ∀ c ∈ C, c.name ≠ n := fun c hc e => hn ⟨c, hc, e⟩
      rw [k2 n (fun c hc => by
        obtain ⟨d, hd, rfl⟩ := List.mem_map.1 hc
        exact h1 d hd), g2 n h1]
  have he : applyE (putsT T C) (backC C) = 0 := by
    rw [apply_zero]
    refine ⟨m1, by simpa [backC] using a2, (wrongs_zero _ _ _).2 ⟨fun c hc' => ?_, hb2⟩, by rw [hput]; exact t1⟩
    obtain ⟨d, hd, rfl⟩ := List.mem_map.1 hc'
    dsimp only
    refine ⟨(w1 d hd).1, ?_, g1 d hd, by simp⟩
    rw [← (w1 d hd).2.2.1]
    exact getT_headsE t2 _
  refine ⟨he, ?_⟩
  unfold applyT
  rw [if_pos he]
  exact hput
/-- The changes again: they do nothing if each of them changes nothing; else they are refused. -/
theorem again_does {T : Tab} {C : List Chg} (h : applyE T C = 0) (hh : tOk T) (hc : cOk C) : if (∀ c ∈ C, c.old = c.new) then applyE (applyT T C) C = 0 ∧ applyT (applyT T C) C = applyT T C else applyE (applyT T C) C = 12 := by
  obtain ⟨m1, m2⟩ := apply_may h hh hc
  have hT : applyT T C = putsT T C := by unfold applyT; rw [if_pos h]
  obtain ⟨a1, a2, a3, a4⟩ := (apply_zero T C).1 h
  obtain ⟨t1, t2, t3⟩ := (mayE_zero T).1 a1
  obtain ⟨w1, w2⟩ := (wrongs_zero T C []).1 a3
  obtain ⟨u1, u2, u3⟩ := (mayE_zero _).1 m1
  rw [hT] at m1 m2 u1 u2 u3 ⊢
  obtain ⟨g1, g2⟩ := getT_puts C T w2
  split <;> rename_i hs
  · have hput : putsT (putsT T C) C = putsT T C := by
      obtain ⟨k1, k2⟩ := getT_puts C (putsT T C) w2
      refine tab_ext (putsT_sorted _ u3) u3 (putsT_heads _ u3 (fun b hb => (u2 b hb).2.1)) (fun b hb => (u2 b hb).2.1) (fun n => ?_)
      by_cases hn : ∃ c ∈ C, c.name = n
      · obtain ⟨c, hc, rfl⟩ := hn
        rw [k1 c hc, g1 c hc]
      · exact k2 n (fun c hc e => hn ⟨c, hc, e⟩)
    have he : applyE (putsT T C) C = 0 := by
      rw [apply_zero]
      refine ⟨m1, a2, (wrongs_zero _ _ _).2 ⟨fun c hc' => ⟨(w1 c hc').1, (w1 c hc').2.1, by rw [g1 c hc', hs c hc'], by simp⟩, w2⟩, by rw [hput]; exact a4⟩
    refine ⟨he, ?_⟩
    conv => lhs; unfold applyT
    rw [if_pos he, hput]
  · have hw : ∀ (D ahead : List Chg), (∀ d ∈ D, nmOk d.name = true ∧ headsE d.new = 0 ∧ getT (putsT T C) d.name = d.new ∧ ∀ a ∈ ahead, a.name ≠ d.name) → apart D → ¬ (∀ c ∈ D, c.old = c.new) → wrongsE (putsT T C) ahead D = 12 := by
      intro D
      induction D with
      | nil => intro ahead _ _ hn; exact absurd (fun c hc => by cases hc) hn
      | cons d D ih =>
        intro ahead h1 h2 hn
        obtain ⟨p1, p2⟩ := List.pairwise_cons.1 h2
        obtain ⟨q1, q2, q3, q4⟩ := h1 d (by simp)
        have hany : ahead.any (fun x => x.name == d.name) = false := by
          rw [List.any_eq_false]
          intro a ha e
          exact q4 a ha (by simpa using e)
        have hwe : wrongE (putsT T C) ahead d = if d.new = d.old then 0 else 12 := by
          unfold wrongE
          rw [if_pos q1, hany, if_neg (by decide), if_pos q2, q3]
        unfold wrongsE
        by_cases hd : d.new = d.old
        · rw [hwe, if_pos hd, if_pos rfl]
          refine ih (ahead ++ [d]) (fun x hx => ?_) p2 (fun hall => hn (fun c hc => ?_))
          · obtain ⟨k1, k2, k3, k4⟩ := h1 x (by simp [hx])
            refine ⟨k1, k2, k3, fun a ha => ?_⟩
            rcases List.mem_append.1 ha with ha | ha
            · exact k4 a ha
            · simp only [List.mem_singleton] at ha
              subst ha
              exact p1 x hx
          · rcases List.mem_cons.1 hc with rfl | hc
            · exact hd.symm
            · exact hall c hc
        · rw [hwe, if_neg hd, if_neg (by decide)]
    have := hw C [] (fun d hd => ⟨(w1 d hd).1, (w1 d hd).2.1, g1 d hd, by simp⟩) w2 hs
    unfold applyE
    rw [if_pos m1, if_neg (by omega), this, if_neg (by decide)]
end Go.Proofs.YtlenmkemjaaaoaaDoor
