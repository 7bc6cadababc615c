/- A region that draws its order, walked once, in an order of one's own: operations that yield whatever the world first, then quiet ones, then a tail in one order. -/
import Derived.StillTail
import Derived.Deep.Quiet
namespace Go.Proofs.YtlenmkemjaaaoaaDoor
section
variable {P : Program} {ops : Array Oper} {md : Region.Mode} {C : World → Prop}

/-! The same for any order of one's own: operations that yield in every world first, then quiet ones, then a tail in one order. -/

def nthOp : List Oper → Nat → Oper
  | [], _ => default
  | o :: _, 0 => o
  | _ :: l, n + 1 => nthOp l n
theorem nthOp_zero (o : Oper) (l : List Oper) : nthOp (o :: l) 0 = o := rfl
theorem nthOp_succ (o : Oper) (l : List Oper) (n : Nat) : nthOp (o :: l) (n + 1) = nthOp l n := rfl
theorem nthOp_get : ∀ (l : List Oper) (i : Nat) (h : i < l.length), nthOp l i = l[i]
  | o :: l, 0, _ => rfl
  | o :: l, n + 1, h => by rw [nthOp_succ]; exact nthOp_get l n (by simpa using h)
def pickOps (l : List Oper) (is : List Nat) : List Oper := is.map (nthOp l)

def sinkL (md : Region.Mode) (ops : Array Oper) (t0 : Nat) : List Nat → Bool
  | [] => true
  | i :: s => (s ++ [t0]).any (fun j => Region.waitsFor md ops j i) && sinkL md ops t0 s
def chainL (md : Region.Mode) (ops : Array Oper) : Nat → List Nat → Bool
  | _, [] => true
  | t0, t :: s => Region.waitsFor md ops t t0 && chainL md ops t s
structure HeadL (md : Region.Mode) (ops : Array Oper) (tl : List Nat) (listed : Array Bool) : Prop where
  size : listed.size = ops.size
  closed : ∀ j oj, ops[j]? = some oj → listed.getD j false = true → ∀ e ∈ oj.after, Region.binds md e = true → listed.getD e.on false = true
  tail : ∀ t ∈ tl, listed.getD t true = false

theorem HeadL.set {tl : List Nat} {i : Nat} {listed : Array Bool} (inv : HeadL md ops tl listed) (hi : i ∈ Region.ready md ops listed) (hin : i ∉ tl) : HeadL md ops tl (listed.setIfInBounds i true) := by
  obtain ⟨_, oi, hoi, hall⟩ := mem_ready.1 hi
  refine ⟨by simp [inv.size], fun j oj hj hl e he hb => ?_, fun t ht => by rw [getD_set_ne true (show i ≠ t from fun e => hin (by rw [e]; exact ht))]; exact inv.tail t ht⟩
  by_cases hij : i = j
  · subst hij
    have : oj = oi := Option.some.inj (hj.symm.trans hoi)
    subst this
    exact getD_set_true (hall e he hb)
  · rw [getD_set_ne false hij] at hl
    exact getD_set_true (inv.closed j oj hj hl e he hb)

theorem waits_unready {j i : Nat} {listed : Array Bool} (h : Region.waitsFor md ops j i = true) (hun : listed.getD i true = false) : j ∉ Region.ready md ops listed := fun hr => by
  obtain ⟨oj, hoj, e, he, hb, hon⟩ := Region.waitsFor_spec h
  obtain ⟨_, oj', hoj', hall⟩ := mem_ready.1 hr
  have : oj = oj' := Option.some.inj (hoj.symm.trans hoj')
  subst this
  have h2 := hall e he hb
  rw [hon, getD_both hun] at h2
  cases h2
theorem chain_unready {listed : Array Bool} : ∀ (tl : List Nat) (t0 : Nat), chainL md ops t0 tl = true → listed.getD t0 true = false → (∀ t ∈ tl, listed.getD t true = false) → ∀ t ∈ tl, t ∉ Region.ready md ops listed
  | [], _, _, _, _, _, h => by cases h
  | t :: s, t0, hc, h0, ht, u, hu => by
    simp only [chainL, Bool.and_eq_true] at hc
    cases hu with
    | head => exact waits_unready hc.1 h0
    | tail _ hu => exact chain_unready s t hc.2 (ht t (by simp)) (fun x hx => ht x (by simp [hx])) u hu
theorem tail_waitsL {t0 : Nat} {tl : List Nat} {listed : Array Bool} (hc : chainL md ops t0 tl = true) (inv : HeadL md ops (t0 :: tl) listed) :
    ∀ hd : List Nat, sinkL md ops t0 hd = true → ∀ i ∈ hd, listed.getD i true = false → ∀ t ∈ t0 :: tl, t ∉ Region.ready md ops listed
  | [], _, _, h, _, _, _ => by cases h
  | i :: s, hs, k, hk, hun, t, ht => by
    simp only [sinkL, Bool.and_eq_true] at hs
    cases hk with
    | tail _ hk => exact tail_waitsL hc inv s hs.2 k hk hun t ht
    | head =>
      cases ht with
      | tail _ ht => exact chain_unready tl t0 hc (inv.tail t0 (by simp)) (fun x hx => inv.tail x (by simp [hx])) t ht
      | head =>
        intro hr
        obtain ⟨j, hj, hw⟩ := List.any_eq_true.1 hs.1
        obtain ⟨oj, hoj, e, he, hb, hon⟩ := Region.waitsFor_spec hw
        rcases List.mem_append.1 hj with hj | hj
        · cases hl : listed.getD j false with
          | true =>
            have h2 := inv.closed j oj hoj hl e he hb
            rw [hon, getD_both hun] at h2
            cases h2
          | false =>
            have hjs : j < listed.size := by rw [inv.size]; exact (Array.getElem?_eq_some_iff.1 hoj).1
            exact tail_waitsL hc inv s hs.2 j hj (getD_in hjs hl) t0 (by simp) hr
        · have : j = t0 := by simpa using hj
          subst this
          exact waits_unready hw hun hr

def wpAnyP (P : Program) (md : Region.Mode) (ops : Array Oper) (C : World → Prop) (tl : List Nat) (L : Array Bool → Act → Prop) : Nat → Array Bool → Act → Prop
  | 0, listed, a => L listed a
  | f + 1, listed, a =>
    Region.ready md ops listed ≠ [] ∧ ∀ i ∈ Region.ready md ops listed, i ∉ tl ∧ qOp P ops C i (wpAnyP P md ops C tl L f (listed.setIfInBounds i true)) a
theorem wpAny_of_headP {tl : List Nat} {g : Nat} {L : Array Bool → Act → Prop} {Q' : Exit → Act → World → Prop} (hL : ∀ listed a w, C w → L listed a → wpAny P md ops Q' g listed a w) :
    ∀ (f : Nat) (listed : Array Bool) (a : Act) (w : World), C w → wpAnyP P md ops C tl L f listed a → wpAny P md ops Q' (f + g) listed a w
  | 0, listed, a, w, hw, h => by rw [Nat.zero_add]; exact hL _ _ _ hw h
  | f + 1, listed, a, w, hw, h => by
    rw [show f + 1 + g = (f + g) + 1 by omega]
    exact ⟨fun h0 => absurd h0 h.1, fun i hi => wpOp_of_qOp hw (fun a' w' hw' h' => wpAny_of_headP hL f _ a' w' hw' h') (h.2 i hi).2⟩
theorem wpAnyP_first {t0 : Nat} {tl hd : List Nat} {i : Nat} {oi : Oper} {v : Value} {L : Array Bool → Act → Prop} (hi : ops[i]? = some oi) (hsel : ∀ (j : Nat) (o : Oper) cs b, ops[j]? = some o → o.op ≠ .select cs b)
    (hs : sinkL md ops t0 hd = true) (hc : chainL md ops t0 tl = true) (hin : i ∈ hd)
    (hdone : ∀ listed a, L listed a → ∀ j ∈ Region.ready md ops listed, j ∈ t0 :: tl) :
    ∀ (f : Nat) (listed : Array Bool) (a : Act), HeadL md ops (t0 :: tl) listed →
      (∀ j oj, ops[j]? = some oj → j ≠ i → listed.getD j true = false → (∀ e ∈ oj.after, Region.binds md e = true → e.on ≠ i) → oi.apart ops oj = true) →
      i ∈ Region.ready md ops listed → YieldsIn P ops C oi v a →
      wpAnyP P md ops C (t0 :: tl) L f (listed.setIfInBounds i true) (a.put oi.dst v) → wpAnyP P md ops C (t0 :: tl) L (f + 1) listed a := by
  intro f
  induction f with
  | zero =>
    intro listed a inv _ hr hy H
    have hun := (mem_ready.1 hr).1
    refine ⟨fun h => (by rw [h] at hr; cases hr), fun j hj => ?_⟩
    have hjn : j ∉ t0 :: tl := fun hm => tail_waitsL hc inv hd hs i hin hun j hm hj
    refine ⟨hjn, ?_⟩
    by_cases hji : j = i
    · subst hji; exact hy.qOp hi H
    · exact absurd (hdone _ _ H j (ready_mono hj hji)) hjn
  | succ f ih =>
    intro listed a inv hfree hr hy H
    have hun := (mem_ready.1 hr).1
    refine ⟨fun h => (by rw [h] at hr; cases hr), fun j hj => ?_⟩
    have hjn : j ∉ t0 :: tl := fun hm => tail_waitsL hc inv hd hs i hin hun j hm hj
    refine ⟨hjn, ?_⟩
    by_cases hji : j = i
    · subst hji; exact hy.qOp hi H
    · have h1 := (H.2 j (ready_mono hj hji)).2
      obtain ⟨hjun, oj, hoj, hall⟩ := mem_ready.1 hj
      have hnot : ∀ e ∈ oj.after, Region.binds md e = true → e.on ≠ i := fun e he hb heq => by
        have h1 := hall e he hb
        rw [heq, getD_both hun] at h1
        cases h1
      have h2 := qOp_put hoj (hfree j oj hoj hji hjun hnot) (fun cs b => hsel i oi cs b hi) (fun cs b => hsel j oj cs b hoj) hy h1
      have hfree' : ∀ k ok, ops[k]? = some ok → k ≠ i → (listed.setIfInBounds j true).getD k true = false →
          (∀ e ∈ ok.after, Region.binds md e = true → e.on ≠ i) → oi.apart ops ok = true := fun k ok hk hki hun hno => by
        refine hfree k ok hk hki ?_ hno
        by_cases hjk : j = k
        · subst hjk; exact hjun
        · rw [getD_set_ne true hjk] at hun; exact hun
      refine qOp_mono (fun a' h3 => ih (listed.setIfInBounds j true) a' (inv.set hj hjn) hfree' (ready_mono hr (Ne.symm hji)) h3.1 ?_) h2
      rw [Array.setIfInBounds_comm _ _ hji]
      exact h3.2

def seqL (md : Region.Mode) (ops : Array Oper) : List Nat → Array Bool → Bool
  | [], listed => (Region.ready md ops listed).isEmpty
  | k :: s, listed => decide (Region.ready md ops listed = [k]) && seqL md ops s (listed.setIfInBounds k true)
def headL (md : Region.Mode) (ops : Array Oper) (tl : List Nat) : List Nat → Array Bool → Bool
  | [], listed => seqL md ops tl listed
  | k :: s, listed => (Region.ready md ops listed).contains k && Region.free md ops listed k && headL md ops tl s (listed.setIfInBounds k true)
theorem seqL_ready {t0 : Nat} {tl : List Nat} {listed : Array Bool} (h : seqL md ops (t0 :: tl) listed = true) : ∀ j ∈ Region.ready md ops listed, j ∈ t0 :: tl := by
  intro j hj
  simp only [seqL, Bool.and_eq_true, decide_eq_true_eq] at h
  rw [h.1] at hj
  have : j = t0 := by simpa using hj
  simp [this]
theorem wpAny_of_seqL {Q' : Exit → Act → World → Prop} : ∀ (is : List Nat) (l : List Oper) (listed : Array Bool) (a : Act) (w : World), is.map (ops[·]?) = l.map some →
    seqL md ops is listed = true → wpList P ops Q' l a w → wpAny P md ops Q' is.length listed a w
  | [], l, _, _, _, hl, hB, h => by
    have : l = [] := by simpa using hl.symm
    subst this
    exact ⟨by simpa [seqL] using hB, h⟩
  | k :: s, l, listed, a, w, hl, hB, h => by
    obtain ⟨o, l', rfl⟩ : ∃ o l', l = o :: l' := by
      cases l with
      | nil => simp at hl
      | cons o l' => exact ⟨o, l', rfl⟩
    simp only [List.map_cons, List.cons.injEq] at hl
    simp only [seqL, Bool.and_eq_true, decide_eq_true_eq] at hB
    refine ⟨fun h1 => (by rw [hB.1] at h1; cases h1), fun i hi => ?_⟩
    rw [hB.1] at hi
    have hik : i = k := by simpa using hi
    subst hik
    have hw : wpOp P ops Q' i (wpList P ops Q' l') a w := by unfold wpOp; simp only [hl.1]; exact h
    exact wpOp_mono (fun a' w' h' => wpAny_of_seqL s l' _ a' w' hl.2 hB.2 h') hw
theorem wpAnyP_lex {t0 : Nat} {tl hd : List Nat} {Lq : Act → Prop} (hsel : Region.noSelect ops = true) (hs : sinkL md ops t0 hd = true) (hc : chainL md ops t0 tl = true) :
    ∀ (is : List Nat) (l : List Oper) (listed : Array Bool) (a : Act), (∀ i ∈ is, i ∈ hd) → (∀ i ∈ is, i ∉ t0 :: tl) → is.map (ops[·]?) = l.map some → HeadL md ops (t0 :: tl) listed →
    headL md ops (t0 :: tl) is listed = true → wpQuiet P ops C Lq l a →
    wpAnyP P md ops C (t0 :: tl) (fun listed' a' => seqL md ops (t0 :: tl) listed' = true ∧ Lq a') is.length listed a
  | [], l, listed, a, _, _, hl, _, hB, h => by
    have : l = [] := by simpa using hl.symm
    subst this
    exact ⟨by simpa [headL] using hB, h⟩
  | k :: s, l, listed, a, hsub, hnt, hl, inv, hB, h => by
    obtain ⟨o, l', rfl⟩ : ∃ o l', l = o :: l' := by
      cases l with
      | nil => simp at hl
      | cons o l' => exact ⟨o, l', rfl⟩
    simp only [List.map_cons, List.cons.injEq] at hl
    simp only [headL, Bool.and_eq_true] at hB
    obtain ⟨⟨hr, hf⟩, hB'⟩ := hB
    have hr' : k ∈ Region.ready md ops listed := by simpa using hr
    have hst : qOp P ops C k (wpQuiet P ops C Lq l') a := by unfold qOp; simp only [hl.1]; exact h
    obtain ⟨v, hy, hK⟩ := yieldsIn_of_qOp hl.1 hst
    exact wpAnyP_first hl.1 (Region.noSelect_spec hsel) hs hc (hsub k (by simp)) (fun listed' a' hL => seqL_ready hL.1) s.length listed a inv (Region.free_spec hl.1 hf) hr' hy
      (wpAnyP_lex hsel hs hc s l' _ _ (fun i hi => hsub i (by simp [hi])) (fun i hi => hnt i (by simp [hi])) hl.2 (inv.set hr' (hnt k (by simp))) hB' hK)

/-- Operations that yield a value, whatever the world, or do not yield at all. -/
def plainOp : Op → Bool
  | .move _ | .nilCheck _ | .fieldAddr .. | .field .. | .binOp .. | .unOp .. | .indexAddr .. | .index .. | .slice .. | .makeInterface .. | .convert .. | .extract .. => true
  | _ => false
theorem nilCheck_run {o : Oper} {a : Act} {w : World} {x : Operand} (hop : o.op = .nilCheck x) : (∃ u w', (execOp a.eval o).run P w = .ok (.value u) w') ∨ (∃ u w', (execOp a.eval o).run P w = .halt u w') := by
  unfold execOp
  rw [hop]
  dsimp only
  split
  · exact .inr ⟨_, _, rfl⟩
  · exact .inr ⟨_, _, rfl⟩
  · exact .inr ⟨_, _, rfl⟩
  · split
    · exact .inr ⟨_, _, rfl⟩
    · rename_i name first captured _ _ t w1 _
      simp only [Sem.run_bind]
      generalize hr : Sem.run P _ w = r
      cases r with
      | halt u w' => exact .inr ⟨u, w', rfl⟩
      | ok p w2 =>
        simp only [Result.andThen_ok]
        generalize hr2 : Sem.run P (nilAhead _ _ _ _) w2 = r2
        cases r2 with
        | halt u w' => exact .inr ⟨u, w', rfl⟩
        | ok p w2 =>
          simp only [Result.andThen_ok]
          split
          · exact .inr ⟨_, _, rfl⟩
          · exact .inl ⟨_, _, rfl⟩
    · exact .inl ⟨_, _, rfl⟩
  · exact .inl ⟨_, _, rfl⟩
theorem value_of_quiet {o : Oper} {a : Act} {v : Value} {C : World → Prop} {w : World} (ho : plainOp o.op = true) (h : o.quietAt P a C w v) : (execOp a.eval o).run P w = .ok (.value v) w := by
  have key : (∃ x : Sem Value, execOp a.eval o = (do let y ← x; pure (.value y))) ∨ (∃ u w', (execOp a.eval o).run P w = .ok (.value u) w') ∨ (∃ u w', (execOp a.eval o).run P w = .halt u w') := by
    cases hop : o.op
    all_goals rw [hop] at ho
    all_goals first
      | (exact .inl ⟨_, by unfold execOp; rw [hop]⟩)
      | (exact .inl ⟨_, by unfold execOp; rw [hop]; rfl⟩)
      | (exact .inr (nilCheck_run hop))
      | (exact .inr (.inl ⟨_, _, by unfold execOp; rw [hop]; rfl⟩))
      | (exact absurd ho (by simp [plainOp]))
  rcases key with ⟨x, hx⟩ | ⟨u, w', hu⟩ | ⟨u, w', hu⟩
  · unfold Oper.quietAt at h
    rw [hx, Sem.run_bind] at h ⊢
    cases hr : x.run P w with
    | ok y w' =>
      rw [hr] at h
      simp only [Result.andThen_ok, Sem.run_pure, Oper.quietUpon] at h ⊢
      rw [h.1, h.2]
    | halt y w' =>
      rw [hr] at h
      simp [Result.andThen, Oper.quietUpon] at h
  · unfold Oper.quietAt at h
    rw [hu] at h ⊢
    simp only [Oper.quietUpon] at h
    rw [h.1, h.2]
  · unfold Oper.quietAt at h
    rw [hu] at h
    simp [Oper.quietUpon] at h
def preL (md : Region.Mode) (ops : Array Oper) (hd tl : List Nat) : List Nat → Array Bool → Bool
  | [], listed => headL md ops tl hd listed
  | k :: s, listed => (Region.ready md ops listed).contains k && Region.free md ops listed k && ((ops[k]?).map (plainOp ·.op)).getD false && preL md ops hd tl s (listed.setIfInBounds k true)
def permB (md : Region.Mode) (ops : Array Oper) (pre hd : List Nat) (t0 : Nat) (tl : List Nat) : Bool :=
  Region.noSelect ops && sinkL md ops t0 hd && chainL md ops t0 tl && (decide (pre.length + hd.length + (tl.length + 1) = ops.size)) && (hd.all fun i => !(t0 :: tl).contains i) && (pre.all fun i => !(t0 :: tl).contains i) && preL md ops hd (t0 :: tl) pre (Array.replicate ops.size false)
theorem map_pick {l : List Oper} {is : List Nat} (h : ∀ i ∈ is, i < l.length) : is.map (l.toArray[·]?) = (pickOps l is).map some := by
  unfold pickOps
  rw [List.map_map]
  refine List.map_congr_left fun i hi => ?_
  simp [h i hi, nthOp_get l i (h i hi)]
theorem preL_lt {hd tl : List Nat} : ∀ (pre : List Nat) (listed : Array Bool), preL md ops hd tl pre listed = true → (∀ i ∈ pre, i < ops.size) ∧ ∃ listed', headL md ops tl hd listed' = true
  | [], listed, h => ⟨by simp, listed, h⟩
  | k :: s, listed, h => by
    simp only [preL, Bool.and_eq_true] at h
    obtain ⟨h1, h2⟩ := preL_lt s _ h.2
    refine ⟨fun i hi => ?_, h2⟩
    cases hi with
    | head =>
      have : k ∈ Region.ready md ops listed := by simpa using h.1.1.1
      obtain ⟨_, o, ho, _⟩ := mem_ready.1 this
      exact (Array.getElem?_eq_some_iff.1 ho).1
    | tail _ hi => exact h1 i hi
theorem ready_lt {i : Nat} {listed : Array Bool} (h : i ∈ Region.ready md ops listed) : i < ops.size := by
  obtain ⟨_, o, ho, _⟩ := mem_ready.1 h
  exact (Array.getElem?_eq_some_iff.1 ho).1
theorem seqL_lt : ∀ (tl : List Nat) (listed : Array Bool), seqL md ops tl listed = true → ∀ i ∈ tl, i < ops.size
  | [], _, _, _, h => by cases h
  | k :: s, listed, h, i, hi => by
    simp only [seqL, Bool.and_eq_true, decide_eq_true_eq] at h
    cases hi with
    | head => exact ready_lt (listed := listed) (by rw [h.1]; simp)
    | tail _ hi => exact seqL_lt s _ h.2 i hi
theorem headL_lt {tl : List Nat} : ∀ (hd : List Nat) (listed : Array Bool), headL md ops tl hd listed = true → (∀ i ∈ hd, i < ops.size) ∧ (∀ i ∈ tl, i < ops.size)
  | [], listed, h => ⟨by simp, seqL_lt tl listed h⟩
  | k :: s, listed, h => by
    simp only [headL, Bool.and_eq_true] at h
    obtain ⟨h1, h2⟩ := headL_lt s _ h.2
    refine ⟨fun i hi => ?_, h2⟩
    cases hi with
    | head => exact ready_lt (listed := listed) (by simpa using h.1.1)
    | tail _ hi => exact h1 i hi

theorem wpAny_of_pre {Q : Exit → Act → World → Prop} {t0 : Nat} {hd tl : List Nat} {w : World} {l : List Oper} (hops : ops = l.toArray) (hsel : Region.noSelect ops = true) (hs : sinkL md ops t0 hd = true) (hc : chainL md ops t0 tl = true)
    (hnt : ∀ i ∈ hd, i ∉ t0 :: tl) (hQ : ∀ c d v a w, Q (.panic c) (Act.put a d v) w → Q (.panic c) a w) (hC : C w) :
    ∀ (is : List Nat) (lp : List Oper) (listed : Array Bool) (a : Act), (∀ i ∈ is, i ∉ t0 :: tl) → is.map (ops[·]?) = lp.map some → HeadL md ops (t0 :: tl) listed → preL md ops hd (t0 :: tl) is listed = true →
      wpQuiet P ops (fun _ => True) (fun a1 => wpQuiet P ops C (fun a2 => ∀ w', C w' → wpList P ops Q (pickOps l (t0 :: tl)) a2 w') (pickOps l hd) a1) lp a →
      wpAny P md ops Q (is.length + (hd.length + (tl.length + 1))) listed a w
  | [], lp, listed, a, _, hl, inv, hB, h => by
    have : lp = [] := by simpa using hl.symm
    subst this
    obtain ⟨hlt1, hlt2⟩ := headL_lt hd listed hB
    have hm1 : hd.map (ops[·]?) = (pickOps l hd).map some := by rw [hops]; exact map_pick (fun i hi => by have := hlt1 i hi; rw [hops] at this; simpa using this)
    have hm2 : (t0 :: tl).map (ops[·]?) = (pickOps l (t0 :: tl)).map some := by rw [hops]; exact map_pick (fun i hi => by have := hlt2 i hi; rw [hops] at this; simpa using this)
    have H := wpAnyP_lex (C := C) (md := md) hsel hs hc hd (pickOps l hd) listed a (fun _ h => h) hnt hm1 inv hB h
    have := wpAny_of_headP (Q' := Q) (g := tl.length + 1) (fun listed a' w' hw' hL => by
      exact wpAny_of_seqL (md := md) (Q' := Q) (t0 :: tl) (pickOps l (t0 :: tl)) listed a' w' hm2 hL.1 (hL.2 w' hw')) _ _ _ _ hC H
    simpa using this
  | k :: s, lp, listed, a, hks, hl, inv, hB, h => by
    obtain ⟨o, l', rfl⟩ : ∃ o l', lp = o :: l' := by
      cases lp with
      | nil => simp at hl
      | cons o l' => exact ⟨o, l', rfl⟩
    simp only [List.map_cons, List.cons.injEq] at hl
    simp only [preL, Bool.and_eq_true] at hB
    obtain ⟨⟨⟨hr, hf⟩, hp⟩, hB'⟩ := hB
    rw [hl.1] at hp
    have hp' : plainOp o.op = true := by simpa using hp
    have hst : qOp P ops (fun _ => True) k (wpQuiet P ops (fun _ => True) (fun a1 => wpQuiet P ops C (fun a2 => ∀ w', C w' → wpList P ops Q (pickOps l (t0 :: tl)) a2 w') (pickOps l hd) a1) l') a := by unfold qOp; simp only [hl.1]; exact h
    obtain ⟨v, hy, hK⟩ := yieldsIn_of_qOp hl.1 hst
    have hy' : Yields P ops o v a := by
      rcases hy with ⟨hw, hv⟩ | ⟨hw, rfl⟩
      · exact .inl ⟨hw, fun w => value_of_quiet hp' (hv w trivial)⟩
      · exact .inr ⟨hw, rfl⟩
    have hr' : k ∈ Region.ready md ops listed := by simpa using hr
    rw [show (k :: s).length + (hd.length + (tl.length + 1)) = (s.length + (hd.length + (tl.length + 1))) + 1 by simp; omega]
    exact wpAny_take hl.1 hsel hf hr (fun c a w h => hQ c _ _ a w h) hy'
      (wpAny_of_pre hops hsel hs hc hnt hQ hC s l' _ _ (fun i hi => hks i (by simp [hi])) hl.2 (inv.set hr' (hks k (by simp))) hB' hK)

/-- THE LAW: a region that draws its order, walked once, in an order of one's own. -/
theorem region_perm {id : Nat} {Q : Exit → Act → World → Prop} {a : Act} {w : World} {l : List Oper} (pre hd : List Nat) (t0 : Nat) (tl : List Nat) (hm : P.follows .mixedOrders = true) (hB : permB .any l.toArray pre hd t0 tl = true)
    (hQ : ∀ c d v a w, Q (.panic c) (Act.put a d v) w → Q (.panic c) a w) (hC : C w.drew)
    (h : wpQuiet P l.toArray (fun _ => True) (fun a1 => wpQuiet P l.toArray C (fun a2 => ∀ w', C w' → wpList P l.toArray Q (pickOps l (t0 :: tl)) a2 w') (pickOps l hd) a1) (pickOps l pre) a) : (Code.region id l.toArray true).wp P Q a w := by
  simp only [permB, Bool.and_eq_true, decide_eq_true_eq] at hB
  obtain ⟨⟨⟨⟨⟨⟨hsel, hs⟩, hc⟩, hlen⟩, hn1⟩, hn2⟩, hpre⟩ := hB
  have inv0 : HeadL .any l.toArray (t0 :: tl) (Array.replicate l.toArray.size false) := by
    refine ⟨by simp, fun j oj _ hl => (by rw [getD_replicate_false] at hl; cases hl), fun t ht => getD_in ?_ (getD_replicate_false _ _)⟩
    obtain ⟨_, listed', hh⟩ := preL_lt pre _ hpre
    have := (headL_lt hd listed' hh).2 t ht
    simpa using this
  have hm1 : pre.map (l.toArray[·]?) = (pickOps l pre).map some := map_pick (fun i hi => by have := (preL_lt pre _ hpre).1 i hi; simpa using this)
  refine wp_region_any hm ?_
  have := wpAny_of_pre (C := C) (md := .any) (l := l) (w := w.drew) rfl hsel hs hc (fun i hi => by have := List.all_eq_true.1 hn1 i hi; simpa using this) hQ hC pre (pickOps l pre) _ a (fun i hi => by have := List.all_eq_true.1 hn2 i hi; simpa using this) hm1 inv0 hpre h
  rw [show pre.length + (hd.length + (tl.length + 1)) = l.toArray.size by omega] at this
  exact this
end
end Go.Proofs.YtlenmkemjaaaoaaDoor
