/- A region that draws its order, in which what only reads may come between what makes memory: walked once, in an order of one's own. -/
import Derived.Test.YtamdhaoglapnnaaGreatDoorM01
import Derived.OrdersHeld
import Derived.Deep.RegionHeld
import Derived.Test.YtamdhaoglapnnaaGreatDoorM03
import Derived.Deep.MidRow
import Derived.Test.YtamdhaoglapnnaaGreatDoorM06
import Derived.Maps.OwnSet
import Derived.Handy
import Derived.Laws.EntriesVeiled
section
namespace Go.Proofs.YtamdhaoglapnnaaGreatDoor
open Go.RowKit

section
variable {P : Program} {md : Region.Mode} {ops : Array Oper} {S : World → Prop} {Q : Exit → Act → World → Prop}
/-- The worlds of a class. -/
def Cls (F : World → Prop) : Type := { x : World // F x }
/-- Whatever order is picked from here on; S holds behind every operation but the late ones. -/
def wpAnyK (P : Program) (md : Region.Mode) (ops : Array Oper) (Q : Exit → Act → World → Prop) (S : World → Prop) (late : List Nat) : Nat → Array Bool → Act → World → Prop
  | 0, listed, a, w => Region.ready md ops listed = [] ∧ Q .normal a w
  | f + 1, listed, a, w => (Region.ready md ops listed = [] → Q .normal a w) ∧
    ∀ i ∈ Region.ready md ops listed, wpOp P ops Q i (fun a' w' => (i ∉ late → S w') ∧ wpAnyK P md ops Q S late f (listed.setIfInBounds i true) a' w') a w
theorem wpAny_of_K {late : List Nat} : ∀ (fuel : Nat) (listed : Array Bool) (a : Act) (w : World), wpAnyK P md ops Q S late fuel listed a w → wpAny P md ops Q fuel listed a w
  | 0, _, _, _, h => h
  | fuel + 1, _, _, _, h => ⟨h.1, fun i hi => wpOp_mono (fun a' w' h' => wpAny_of_K fuel _ a' w' h'.2) (h.2 i hi)⟩
theorem wpAnyK_first {t0 : Nat} {tl hd : List Nat} {i : Nat} {oi : Oper} {v : Value} (hi : ops[i]? = some oi) (hsel : ∀ (j : Nat) (o : Oper) cs b, ops[j]? = some o → o.op ≠ .select cs b)
    (hs : sinkL md ops t0 hd = true) (hc : chainL md ops t0 tl = true) (hin : i ∈ hd) (hnl : i ∉ t0 :: tl)
    (hQ : ∀ c a w, Q (.panic c) (a.put oi.dst v) w → Q (.panic c) a w) :
    ∀ (fuel : Nat) (listed : Array Bool) (a : Act) (w : World), HeadL md ops (t0 :: tl) listed →
      (∀ j oj, ops[j]? = some oj → j ≠ i → listed.getD j true = false → (∀ e ∈ oj.after, Region.binds md e = true → e.on ≠ i) → oi.apart ops oj = true) →
      i ∈ Region.ready md ops listed → YieldsIf P ops S oi v a → S w →
      wpAnyK P md ops Q S (t0 :: tl) fuel (listed.setIfInBounds i true) (a.put oi.dst v) w → wpAnyK P md ops Q S (t0 :: tl) (fuel + 1) listed a w := by
  intro fuel
  induction fuel with
  | zero =>
    intro listed a w inv _ hr hy hS H
    refine ⟨fun h => (by rw [h] at hr; cases hr), fun j hj => ?_⟩
    by_cases hji : j = i
    · subst hji; exact hy.wpOp hi hS ⟨fun _ => hS, H⟩
    · have := ready_mono hj hji
      rw [H.1] at this
      cases this
  | succ fuel ih =>
    intro listed a w inv hfree hr hy hS H
    have hun := (mem_ready.1 hr).1
    refine ⟨fun h => (by rw [h] at hr; cases hr), fun j hj => ?_⟩
    have hjn : j ∉ t0 :: tl := fun hm => tail_waitsL hc inv hd hs i hin hun j hm hj
    by_cases hji : j = i
    · subst hji; exact hy.wpOp hi hS ⟨fun _ => hS, H⟩
    · have h1 := H.2 j (ready_mono hj hji)
      obtain ⟨hjun, oj, hoj, hall⟩ := mem_ready.1 hj
      have hnot : ∀ e ∈ oj.after, Region.binds md e = true → e.on ≠ i := fun e he hb heq => by
        have h1 := hall e he hb
        rw [heq, getD_both hun] at h1
        cases h1
      have h2 := wpOp_putIf hoj (hfree j oj hoj hji hjun hnot) (fun cs b => hsel i oi cs b hi) (fun cs b => hsel j oj cs b hoj) hQ hy h1
      have hfree' : ∀ k ok, ops[k]? = some ok → k ≠ i → (listed.setIfInBounds j true).getD k true = false →
          (∀ e ∈ ok.after, Region.binds md e = true → e.on ≠ i) → oi.apart ops ok = true := fun k ok hk hki hun hno => by
        refine hfree k ok hk hki ?_ hno
        by_cases hjk : j = k
        · subst hjk; exact hjun
        · rw [getD_set_ne true hjk] at hun; exact hun
      refine wpOp_mono (fun a' w' h3 => ⟨h3.2.1, ih (listed.setIfInBounds j true) a' w' (inv.set hj hjn) hfree' (ready_mono hr (Ne.symm hji)) h3.1 (h3.2.1 hjn) ?_⟩) h2
      rw [Array.setIfInBounds_comm _ _ hji]
      exact h3.2.2
/-- Operations that yield a value and are no calls. -/
def readOp : Op → Bool
  | .load .. | .build .. => true
  | o => plainOp o
theorem value_of_read {o : Oper} {a : Act} {v : Value} {C : World → Prop} {w : World} (ho : readOp o.op = true) (h : o.quietAt P a C w v) : (execOp a.eval o).run P w = .ok (.value v) w := by
  by_cases hp : plainOp o.op = true
  · exact value_of_quiet hp h
  · have key : ∃ x : Sem Value, execOp a.eval o = (do let y ← x; pure (.value y)) := by
      cases hop : o.op
      all_goals rw [hop] at ho hp
      all_goals first
        | (exact ⟨_, by unfold execOp; rw [hop]⟩)
        | (exact ⟨_, by unfold execOp; rw [hop]; rfl⟩)
        | (exact absurd ho (by simpa [readOp] using hp))
        | (exact absurd rfl hp)
    obtain ⟨x, hx⟩ := key
    unfold Oper.quietAt at h
    rw [hx, Sem.run_bind] at h ⊢
    cases hr : x.run P w with
    | ok y w' =>
      rw [hr] at h
      simp only [Result.andThen_ok, Sem.run_pure, Oper.quietUpon] at h ⊢
      rw [h.1, h.2]
    | halt y w' =>
      rw [hr] at h
      simp [Result.andThen, Oper.quietUpon] at h
/-- What makes memory, one operation behind the other; S holds behind each. -/
def wpMid (P : Program) (ops : Array Oper) (Q : Exit → Act → World → Prop) (S : World → Prop) (rest : List Oper) : List Oper → Act → World → Prop
  | [], a, w => wpList P ops Q rest a w
  | o :: r, a, w => ∀ K : Act → World → Prop, (∀ a w, S w → wpMid P ops Q S rest r a w → K a w) → if Region.wanted o (yielded ops a.tmps) = true then Oper.wp P o a w K Q else K (a.put o.dst undef) w
theorem wpAnyK_tail {late : List Nat} : ∀ (is : List Nat) (l : List Oper) (listed : Array Bool) (a : Act) (w : World), (∀ i ∈ is, i ∈ late) → is.map (ops[·]?) = l.map some →
    seqL md ops is listed = true → wpList P ops Q l a w → wpAnyK P md ops Q S late is.length listed a w
  | [], l, _, _, _, _, hl, hB, h => by
    have : l = [] := by simpa using hl.symm
    subst this
    exact ⟨by simpa [seqL] using hB, h⟩
  | k :: s, l, listed, a, w, hlate, hl, hB, h => by
    obtain ⟨o, l', rfl⟩ : ∃ o l', l = o :: l' := by
      cases l with
      | nil => simp at hl
      | cons o l' => exact ⟨o, l', rfl⟩
    simp only [List.map_cons, List.cons.injEq] at hl
    simp only [seqL, Bool.and_eq_true, decide_eq_true_eq] at hB
    refine ⟨fun h1 => (by rw [hB.1] at h1; cases h1), fun i hi => ?_⟩
    rw [hB.1] at hi
    have hik : i = k := by simpa using hi
    subst hik
    have hw : wpOp P ops Q i (wpList P ops Q l') a w := by unfold wpOp; simp only [hl.1]; exact h
    exact wpOp_mono (fun a' w' h' => ⟨fun hn => absurd (hlate i (by simp)) hn, wpAnyK_tail s l' _ a' w' (fun j hj => hlate j (by simp [hj])) hl.2 hB.2 h'⟩) hw
def midL (md : Region.Mode) (ops : Array Oper) (tl : List Nat) : List Nat → Array Bool → Bool
  | [], listed => seqL md ops tl listed
  | k :: s, listed => decide (Region.ready md ops listed = [k]) && midL md ops tl s (listed.setIfInBounds k true)
theorem wpAnyK_mid {late : List Nat} {rest : List Oper} (hrest : late.map (ops[·]?) = rest.map some) : ∀ (is : List Nat) (l : List Oper) (listed : Array Bool) (a : Act) (w : World), is.map (ops[·]?) = l.map some →
    midL md ops late is listed = true → wpMid P ops Q S rest l a w → wpAnyK P md ops Q S late (is.length + late.length) listed a w
  | [], l, listed, a, w, hl, hB, h => by
    have : l = [] := by simpa using hl.symm
    subst this
    rw [List.length_nil, Nat.zero_add]
    exact wpAnyK_tail late rest listed a w (fun _ h => h) hrest hB h
  | k :: s, l, listed, a, w, hl, hB, h => by
    obtain ⟨o, l', rfl⟩ : ∃ o l', l = o :: l' := by
      cases l with
      | nil => simp at hl
      | cons o l' => exact ⟨o, l', rfl⟩
    simp only [List.map_cons, List.cons.injEq] at hl
    simp only [midL, Bool.and_eq_true, decide_eq_true_eq] at hB
    rw [show (k :: s).length + late.length = (s.length + late.length) + 1 by simp; omega]
    refine ⟨fun h1 => (by rw [hB.1] at h1; cases h1), fun i hi => ?_⟩
    rw [hB.1] at hi
    have hik : i = k := by simpa using hi
    subst hik
    refine wpOp_step hl.1 (fun K hK => ?_)
    exact h K (fun a' w' hS hm => hK a' w' ⟨fun _ => hS, wpAnyK_mid hrest s l' _ a' w' hl.2 hB.2 hm⟩)
def takeL (md : Region.Mode) (ops : Array Oper) (mid tl : List Nat) : List Nat → Array Bool → Bool
  | [], listed => midL md ops tl mid listed
  | k :: s, listed => (Region.ready md ops listed).contains k && Region.free md ops listed k && ((ops[k]?).map (readOp ·.op)).getD false && takeL md ops mid tl s (listed.setIfInBounds k true)
def mixB (md : Region.Mode) (ops : Array Oper) (hd mid : List Nat) (t0 : Nat) (tl : List Nat) : Bool :=
  Region.noSelect ops && sinkL md ops t0 (hd ++ mid) && chainL md ops t0 tl && (decide (hd.length + (mid.length + (tl.length + 1)) = ops.size)) && (hd.all fun i => !(t0 :: tl).contains i) && ((hd ++ mid ++ t0 :: tl).all fun i => decide (i < ops.size)) && takeL md ops mid (t0 :: tl) hd (Array.replicate ops.size false)
theorem wpAnyK_takes {t0 : Nat} {tl hd mid : List Nat} {l : List Oper} (hops : ops = l.toArray) (hsel : Region.noSelect ops = true) (hs : sinkL md ops t0 (hd ++ mid) = true) (hc : chainL md ops t0 tl = true)
    (hnt : ∀ i ∈ hd, i ∉ t0 :: tl) (hlt : ∀ i ∈ hd ++ mid ++ t0 :: tl, i < ops.size) (hQ : ∀ c d v a w, Q (.panic c) (Act.put a d v) w → Q (.panic c) a w) {w : World} (hS : S w) :
    ∀ (is : List Nat) (lp : List Oper) (listed : Array Bool) (a : Act), (∀ i ∈ is, i ∈ hd) → is.map (ops[·]?) = lp.map some → HeadL md ops (t0 :: tl) listed → takeL md ops mid (t0 :: tl) is listed = true →
      wpQuiet P ops S (fun a' => wpMid P ops Q S (pickOps l (t0 :: tl)) (pickOps l mid) a' w) lp a →
      wpAnyK P md ops Q S (t0 :: tl) (is.length + (mid.length + (t0 :: tl).length)) listed a w
  | [], lp, listed, a, _, hl, inv, hB, h => by
    have : lp = [] := by simpa using hl.symm
    subst this
    have hm1 : mid.map (ops[·]?) = (pickOps l mid).map some := by rw [hops]; exact map_pick (fun i hi => by have := hlt i (by simp [hi]); rw [hops] at this; simpa using this)
    have hm2 : (t0 :: tl).map (ops[·]?) = (pickOps l (t0 :: tl)).map some := by rw [hops]; exact map_pick (fun i hi => by have := hlt i (List.mem_append.2 (.inr hi)); rw [hops] at this; simpa using this)
    rw [List.length_nil, Nat.zero_add]
    exact wpAnyK_mid hm2 mid (pickOps l mid) listed a w hm1 hB h
  | k :: s, lp, listed, a, hks, hl, inv, hB, h => by
    obtain ⟨o, l', rfl⟩ : ∃ o l', lp = o :: l' := by
      cases lp with
      | nil => simp at hl
      | cons o l' => exact ⟨o, l', rfl⟩
    simp only [List.map_cons, List.cons.injEq] at hl
    simp only [takeL, Bool.and_eq_true] at hB
    obtain ⟨⟨⟨hr, hf⟩, hp⟩, hB'⟩ := hB
    rw [hl.1] at hp
    have hp' : readOp o.op = true := by simpa using hp
    have hst : qOp P ops S k (wpQuiet P ops S (fun a' => wpMid P ops Q S (pickOps l (t0 :: tl)) (pickOps l mid) a' w) l') a := by unfold qOp; simp only [hl.1]; exact h
    obtain ⟨v, hy, hK⟩ := yieldsIn_of_qOp hl.1 hst
    have hy' : YieldsIf P ops S o v a := by
      rcases hy with ⟨hw, hv⟩ | ⟨hw, rfl⟩
      · exact .inl ⟨hw, fun w hw => value_of_read hp' (hv w hw)⟩
      · exact .inr ⟨hw, rfl⟩
    have hr' : k ∈ Region.ready md ops listed := by simpa using hr
    rw [show (k :: s).length + (mid.length + (t0 :: tl).length) = (s.length + (mid.length + (t0 :: tl).length)) + 1 by simp; omega]
    exact wpAnyK_first hl.1 (Region.noSelect_spec hsel) hs hc (List.mem_append.2 (.inl (hks k (by simp)))) (hnt k (hks k (by simp))) (fun c a w h => hQ c _ _ a w h) _ listed a w inv (Region.free_spec hl.1 hf) hr' hy' hS
      (wpAnyK_takes hops hsel hs hc hnt hlt hQ hS s l' _ _ (fun i hi => hks i (by simp [hi])) hl.2 (inv.set hr' (hnt k (hks k (by simp)))) hB' hK)
/-- THE LAW: first what only reads (each value the same in every world that meets S), then what makes memory (S behind each), then the rest in its one order. -/
theorem region_mix {id : Nat} {a : Act} {w : World} {l : List Oper} (S : World → Prop) (hd mid : List Nat) (t0 : Nat) (tl : List Nat) (hm : P.follows .mixedOrders = true) (hB : mixB .any l.toArray hd mid t0 tl = true)
    (hQ : ∀ c d v a w, Q (.panic c) (Act.put a d v) w → Q (.panic c) a w) (hS : S w.drew)
    (h : wpQuiet P l.toArray S (fun a' => wpMid P l.toArray Q S (pickOps l (t0 :: tl)) (pickOps l mid) a' w.drew) (pickOps l hd) a) : (Code.region id l.toArray true).wp P Q a w := by
  simp only [mixB, Bool.and_eq_true, decide_eq_true_eq] at hB
  obtain ⟨⟨⟨⟨⟨⟨hsel, hs⟩, hc⟩, hlen⟩, hn1⟩, hlt⟩, htk⟩ := hB
  have hlt' : ∀ i ∈ hd ++ mid ++ t0 :: tl, i < l.toArray.size := fun i hi => by have := List.all_eq_true.1 hlt i hi; simpa using this
  have inv0 : HeadL .any l.toArray (t0 :: tl) (Array.replicate l.toArray.size false) :=
    ⟨by simp, fun j oj _ hl => (by rw [getD_replicate_false] at hl; cases hl), fun t ht => getD_in (by simpa using hlt' t (List.mem_append.2 (.inr ht))) (getD_replicate_false _ _)⟩
  have hm1 : hd.map (l.toArray[·]?) = (pickOps l hd).map some := map_pick (fun i hi => by have := hlt' i (by simp [hi]); simpa using this)
  refine wp_region_any hm ?_
  have := wpAny_of_K _ _ _ _ (wpAnyK_takes (md := .any) (l := l) (w := w.drew) rfl hsel hs hc (fun i hi => by have := List.all_eq_true.1 hn1 i hi; simpa using this) hlt' hQ hS hd (pickOps l hd) _ a (fun _ h => h) hm1 inv0 htk h)
  rw [show hd.length + (mid.length + (t0 :: tl).length) = l.toArray.size by rw [List.length_cons]; exact hlen] at this
  exact this
end
end Go.Proofs.YtamdhaoglapnnaaGreatDoor
end
section
/- A region that draws its order: what reads, what makes memory, again what reads, .., then the rest: walked once. -/
namespace Go.Proofs.YtamdhaoglapnnaaGreatDoor
open Go.RowKit

section
variable {P : Program} {md : Region.Mode} {ops : Array Oper} {S : World → Prop} {Q : Exit → Act → World → Prop}
/-- Operations that yield a value, look-ups and lengths among them. -/
def readOp2 : Op → Bool
  | .lookup .. => true
  | .assign _ => true
  | .call c => match c.callee with
    | .builtin .len => true
    | _ => false
  | o => readOp o
theorem value_of_read2 {o : Oper} {a : Act} {v : Value} {C : World → Prop} {w : World} (ho : readOp2 o.op = true) (h : o.quietAt P a C w v) : (execOp a.eval o).run P w = .ok (.value v) w := by
  by_cases hp : readOp o.op = true
  · exact value_of_read hp h
  · have key : (∃ x : Sem Value, execOp a.eval o = (do let y ← x; pure (.value y))) ∨ (∃ u w', (execOp a.eval o).run P w = .ok (.value u) w') := by
      cases hop : o.op
      all_goals rw [hop] at ho hp
      case call c =>
        cases hc : c.callee with
        | builtin b =>
          cases b
          all_goals first
            | (exact .inl ⟨_, by unfold execOp; rw [hop]; simp only [resolve, hc, pure_bind, invoke, builtin]; rfl⟩)
            | (exact absurd ho (by simp [readOp2, hc]))
        | value f => exact absurd ho (by simp [readOp2, hc])
        | invoke r n => exact absurd ho (by simp [readOp2, hc])
      all_goals first
        | (exact .inl ⟨_, by unfold execOp; rw [hop]⟩)
        | (exact .inl ⟨_, by unfold execOp; rw [hop]; rfl⟩)
        | (exact .inr ⟨_, _, by unfold execOp; rw [hop]; rfl⟩)
        | (exact absurd ho (by simpa [readOp2] using hp))
        | (exact absurd rfl hp)
    rcases key with ⟨x, hx⟩ | ⟨u, w', hu⟩
    · unfold Oper.quietAt at h
      rw [hx, Sem.run_bind] at h ⊢
      cases hr : x.run P w with
      | ok y w' =>
        rw [hr] at h
        simp only [Result.andThen_ok, Sem.run_pure, Oper.quietUpon] at h ⊢
        rw [h.1, h.2]
      | halt y w' =>
        rw [hr] at h
        simp [Result.andThen, Oper.quietUpon] at h
    · unfold Oper.quietAt at h
      rw [hu] at h ⊢
      simp only [Oper.quietUpon] at h
      rw [h.1, h.2]
def setAll (ts : List Nat) (listed : Array Bool) : Array Bool := ts.foldl (fun l k => l.setIfInBounds k true) listed
def takesB (md : Region.Mode) (ops : Array Oper) : List Nat → Array Bool → Bool
  | [], _ => true
  | k :: s, listed => (Region.ready md ops listed).contains k && Region.free md ops listed k && ((ops[k]?).map (readOp2 ·.op)).getD false && takesB md ops s (listed.setIfInBounds k true)
abbrev Seg := List Nat × Nat
def segL (md : Region.Mode) (ops : Array Oper) (last tl : List Nat) : List Seg → Array Bool → Bool
  | [], listed => takesB md ops last listed && seqL md ops tl (setAll last listed)
  | (ts, m) :: r, listed => takesB md ops ts listed && (decide (Region.ready md ops (setAll ts listed) = [m]) && segL md ops last tl r ((setAll ts listed).setIfInBounds m true))
def segN : List Seg → List Nat
  | [] => []
  | (ts, m) :: r => ts ++ m :: segN r
/-- What reads, then one operation that makes memory (S behind it), and so on; then what reads, then the tail. -/
def wpSeg (P : Program) (ops : Array Oper) (Q : Exit → Act → World → Prop) (S : World → Prop) (l : List Oper) (last tl : List Nat) : List Seg → Act → World → Prop
  | [], a, w => wpQuiet P ops S (fun a' => wpList P ops Q (pickOps l tl) a' w) (pickOps l last) a
  | (ts, m) :: r, a, w => wpQuiet P ops S (fun a' => ∀ K : Act → World → Prop, (∀ a w, S w → wpSeg P ops Q S l last tl r a w → K a w) → if Region.wanted (nthOp l m) (yielded ops a'.tmps) = true then Oper.wp P (nthOp l m) a' w K Q else K (a'.put (nthOp l m).dst undef) w) (pickOps l ts) a
theorem K_takes {t0 : Nat} {tl sk : List Nat} (hsel : Region.noSelect ops = true) (hs : sinkL md ops t0 sk = true) (hc : chainL md ops t0 tl = true) (hnt : ∀ i ∈ sk, i ∉ t0 :: tl)
    (hQ : ∀ c d v a w, Q (.panic c) (Act.put a d v) w → Q (.panic c) a w) {w : World} (hS : S w) (X : Act → Prop) (f : Nat) :
    ∀ (is : List Nat) (lp : List Oper) (listed : Array Bool) (a : Act), (∀ i ∈ is, i ∈ sk) → is.map (ops[·]?) = lp.map some → HeadL md ops (t0 :: tl) listed → takesB md ops is listed = true →
      wpQuiet P ops S X lp a → (∀ a', X a' → HeadL md ops (t0 :: tl) (setAll is listed) → wpAnyK P md ops Q S (t0 :: tl) f (setAll is listed) a' w) → wpAnyK P md ops Q S (t0 :: tl) (is.length + f) listed a w
  | [], lp, listed, a, _, hl, inv, _, h, hX => by
    have : lp = [] := by simpa using hl.symm
    subst this
    rw [List.length_nil, Nat.zero_add]
    exact hX a h inv
  | k :: s, lp, listed, a, hks, hl, inv, hB, h, hX => by
    obtain ⟨o, l', rfl⟩ : ∃ o l', lp = o :: l' := by
      cases lp with
      | nil => simp at hl
      | cons o l' => exact ⟨o, l', rfl⟩
    simp only [List.map_cons, List.cons.injEq] at hl
    simp only [takesB, Bool.and_eq_true] at hB
    obtain ⟨⟨⟨hr, hf⟩, hp⟩, hB'⟩ := hB
    rw [hl.1] at hp
    have hp' : readOp2 o.op = true := by simpa using hp
    have hst : qOp P ops S k (wpQuiet P ops S X l') a := by unfold qOp; simp only [hl.1]; exact h
    obtain ⟨v, hy, hK⟩ := yieldsIn_of_qOp hl.1 hst
    have hy' : YieldsIf P ops S o v a := by
      rcases hy with ⟨hw, hv⟩ | ⟨hw, rfl⟩
      · exact .inl ⟨hw, fun w hw => value_of_read2 hp' (hv w hw)⟩
      · exact .inr ⟨hw, rfl⟩
    have hr' : k ∈ Region.ready md ops listed := by simpa using hr
    rw [show (k :: s).length + f = (s.length + f) + 1 by simp; omega]
    exact wpAnyK_first hl.1 (Region.noSelect_spec hsel) hs hc (hks k (by simp)) (hnt k (hks k (by simp))) (fun c a w h => hQ c _ _ a w h) _ listed a w inv (Region.free_spec hl.1 hf) hr' hy' hS
      (K_takes hsel hs hc hnt hQ hS X f s l' _ _ (fun i hi => hks i (by simp [hi])) hl.2 (inv.set hr' (hnt k (hks k (by simp)))) hB' hK hX)
theorem K_segs {t0 : Nat} {tl sk last : List Nat} {l : List Oper} (hops : ops = l.toArray) (hsel : Region.noSelect ops = true) (hs : sinkL md ops t0 sk = true) (hc : chainL md ops t0 tl = true) (hnt : ∀ i ∈ sk, i ∉ t0 :: tl)
    (hlt : ∀ i ∈ sk ++ t0 :: tl, i < ops.size) (hQ : ∀ c d v a w, Q (.panic c) (Act.put a d v) w → Q (.panic c) a w) (hlast : ∀ i ∈ last, i ∈ sk) :
    ∀ (segs : List Seg) (listed : Array Bool) (a : Act) (w : World), S w → (∀ i ∈ segN segs, i ∈ sk) → HeadL md ops (t0 :: tl) listed → segL md ops last (t0 :: tl) segs listed = true →
      wpSeg P ops Q S l last (t0 :: tl) segs a w → wpAnyK P md ops Q S (t0 :: tl) ((segN segs).length + (last.length + (t0 :: tl).length)) listed a w
  | [], listed, a, w, hS, _, inv, hB, h => by
    simp only [segL, Bool.and_eq_true] at hB
    have hm1 : last.map (ops[·]?) = (pickOps l last).map some := by rw [hops]; exact map_pick (fun i hi => by have := hlt i (List.mem_append.2 (.inl (hlast i hi))); rw [hops] at this; simpa using this)
    have hm2 : (t0 :: tl).map (ops[·]?) = (pickOps l (t0 :: tl)).map some := by rw [hops]; exact map_pick (fun i hi => by have := hlt i (List.mem_append.2 (.inr hi)); rw [hops] at this; simpa using this)
    simp only [segN, List.length_nil, Nat.zero_add]
    exact K_takes hsel hs hc hnt hQ hS _ _ last (pickOps l last) listed a hlast hm1 inv hB.1 h (fun a' ha _ => wpAnyK_tail (t0 :: tl) _ _ a' w (fun _ h => h) hm2 hB.2 ha)
  | (ts, m) :: r, listed, a, w, hS, hin, inv, hB, h => by
    simp only [segL, Bool.and_eq_true, decide_eq_true_eq] at hB
    obtain ⟨hB1, hB2, hB3⟩ := hB
    have hts : ∀ i ∈ ts, i ∈ sk := fun i hi => hin i (by simp [segN, hi])
    have hm : m ∈ sk := hin m (by simp [segN])
    have hm1 : ts.map (ops[·]?) = (pickOps l ts).map some := by rw [hops]; exact map_pick (fun i hi => by have := hlt i (List.mem_append.2 (.inl (hts i hi))); rw [hops] at this; simpa using this)
    have hmo : ops[m]? = some (nthOp l m) := by
      have h1 := hlt m (List.mem_append.2 (.inl hm))
      rw [hops] at h1 ⊢
      have h2 : m < l.length := by simpa using h1
      rw [nthOp_get l m h2]
      simp [h2]
    rw [show (segN ((ts, m) :: r)).length + (last.length + (t0 :: tl).length) = ts.length + (((segN r).length + (last.length + (t0 :: tl).length)) + 1) by simp [segN]; omega]
    refine K_takes hsel hs hc hnt hQ hS _ _ ts (pickOps l ts) listed a hts hm1 inv hB1 h (fun a' ha inv' => ?_)
    refine ⟨fun h1 => (by rw [hB2] at h1; cases h1), fun i hi => ?_⟩
    have hi0 := hi
    rw [hB2] at hi
    have hik : i = m := by simpa using hi
    subst hik
    refine wpOp_step hmo (fun K hK => ?_)
    exact ha K (fun a' w' hS' hm' => hK a' w' ⟨fun _ => hS', K_segs hops hsel hs hc hnt hlt hQ hlast r _ a' w' hS' (fun j hj => hin j (by simp [segN, hj])) (inv'.set hi0 (hnt i hm)) hB3 hm'⟩)
def segB (md : Region.Mode) (ops : Array Oper) (segs : List Seg) (last : List Nat) (t0 : Nat) (tl : List Nat) : Bool :=
  Region.noSelect ops && sinkL md ops t0 (segN segs ++ last) && chainL md ops t0 tl && (decide ((segN segs).length + (last.length + (tl.length + 1)) = ops.size)) && ((segN segs ++ last).all fun i => !(t0 :: tl).contains i) && ((segN segs ++ last ++ t0 :: tl).all fun i => decide (i < ops.size)) && segL md ops last (t0 :: tl) segs (Array.replicate ops.size false)
/-- THE LAW. -/
theorem region_seg {id : Nat} {a : Act} {w : World} {l : List Oper} (S : World → Prop) (segs : List Seg) (last : List Nat) (t0 : Nat) (tl : List Nat) (hm : P.follows .mixedOrders = true) (hB : segB .any l.toArray segs last t0 tl = true)
    (hQ : ∀ c d v a w, Q (.panic c) (Act.put a d v) w → Q (.panic c) a w) (hS : S w.drew) (h : wpSeg P l.toArray Q S l last (t0 :: tl) segs a w.drew) : (Code.region id l.toArray true).wp P Q a w := by
  simp only [segB, Bool.and_eq_true, decide_eq_true_eq] at hB
  obtain ⟨⟨⟨⟨⟨⟨hsel, hs⟩, hc⟩, hlen⟩, hn1⟩, hlt⟩, hsg⟩ := hB
  have hlt' : ∀ i ∈ (segN segs ++ last) ++ t0 :: tl, i < l.toArray.size := fun i hi => by have := List.all_eq_true.1 hlt i hi; simpa using this
  have inv0 : HeadL .any l.toArray (t0 :: tl) (Array.replicate l.toArray.size false) :=
    ⟨by simp, fun j oj _ hl => (by rw [getD_replicate_false] at hl; cases hl), fun t ht => getD_in (by simpa using hlt' t (List.mem_append.2 (.inr ht))) (getD_replicate_false _ _)⟩
  refine wp_region_any hm ?_
  have := wpAny_of_K _ _ _ _ (K_segs (md := .any) (l := l) (last := last) rfl hsel hs hc (fun i hi => by have := List.all_eq_true.1 hn1 i hi; simpa using this) hlt' hQ (fun i hi => List.mem_append.2 (.inr hi)) segs _ a w.drew hS (fun i hi => List.mem_append.2 (.inl hi)) inv0 hsg h)
  rw [show (segN segs).length + (last.length + (t0 :: tl).length) = l.toArray.size by rw [List.length_cons]; exact hlen] at this
  exact this
end
end Go.Proofs.YtamdhaoglapnnaaGreatDoor
end
section
/- A region that draws its order, walked along a plan: what reads, then what makes memory; where two operations may come up, each of them in turn. -/
namespace Go.Proofs.YtamdhaoglapnnaaGreatDoor
open Go.RowKit

inductive Plan where
  | tail (last : List Nat) : Plan
  | one (ts : List Nat) (m : Nat) (p : Plan) : Plan
  | two (ts : List Nat) (m : Nat) (p : Plan) (m' : Nat) (p' : Plan) : Plan
section
variable {P : Program} {md : Region.Mode} {ops : Array Oper} {S : World → Prop} {Q : Exit → Act → World → Prop}
def planN : Plan → List Nat
  | .tail last => last
  | .one ts m p => ts ++ m :: planN p
  | .two ts m p _ _ => ts ++ m :: planN p
def planIn (sk : List Nat) : Plan → Bool
  | .tail last => last.all fun i => sk.contains i
  | .one ts m p => (ts.all fun i => sk.contains i) && (sk.contains m && planIn sk p)
  | .two ts m p m' p' => (ts.all fun i => sk.contains i) && (sk.contains m && (planIn sk p && (sk.contains m' && (planIn sk p' && decide ((planN p).length = (planN p').length)))))
def planL (md : Region.Mode) (ops : Array Oper) (tl : List Nat) : Plan → Array Bool → Bool
  | .tail last, listed => takesB md ops last listed && seqL md ops tl (setAll last listed)
  | .one ts m p, listed => takesB md ops ts listed && (decide (Region.ready md ops (setAll ts listed) = [m]) && planL md ops tl p ((setAll ts listed).setIfInBounds m true))
  | .two ts m p m' p', listed => takesB md ops ts listed && (decide (Region.ready md ops (setAll ts listed) = [m, m']) && (planL md ops tl p ((setAll ts listed).setIfInBounds m true) && planL md ops tl p' ((setAll ts listed).setIfInBounds m' true)))
def stepG (P : Program) (ops : Array Oper) (Q : Exit → Act → World → Prop) (S : World → Prop) (o : Oper) (X : Act → World → Prop) (a : Act) (w : World) : Prop :=
  ∀ K : Act → World → Prop, (∀ a w, S w → X a w → K a w) → if Region.wanted o (yielded ops a.tmps) = true then Oper.wp P o a w K Q else K (a.put o.dst undef) w
def wpPlan (P : Program) (ops : Array Oper) (Q : Exit → Act → World → Prop) (S : World → Prop) (l : List Oper) (tl : List Nat) : Plan → Act → World → Prop
  | .tail last, a, w => wpQuiet P ops S (fun a' => wpList P ops Q (pickOps l tl) a' w) (pickOps l last) a
  | .one ts m p, a, w => wpQuiet P ops S (fun a' => stepG P ops Q S (nthOp l m) (wpPlan P ops Q S l tl p) a' w) (pickOps l ts) a
  | .two ts m p m' p', a, w => wpQuiet P ops S (fun a' => stepG P ops Q S (nthOp l m) (wpPlan P ops Q S l tl p) a' w ∧ stepG P ops Q S (nthOp l m') (wpPlan P ops Q S l tl p') a' w) (pickOps l ts) a
theorem K_plan {t0 : Nat} {tl sk : List Nat} {l : List Oper} (hops : ops = l.toArray) (hsel : Region.noSelect ops = true) (hs : sinkL md ops t0 sk = true) (hc : chainL md ops t0 tl = true) (hnt : ∀ i ∈ sk, i ∉ t0 :: tl)
    (hlt : ∀ i ∈ sk ++ t0 :: tl, i < ops.size) (hQ : ∀ c d v a w, Q (.panic c) (Act.put a d v) w → Q (.panic c) a w) :
    ∀ (p : Plan) (listed : Array Bool) (a : Act) (w : World), S w → planIn sk p = true → HeadL md ops (t0 :: tl) listed → planL md ops (t0 :: tl) p listed = true →
      wpPlan P ops Q S l (t0 :: tl) p a w → wpAnyK P md ops Q S (t0 :: tl) ((planN p).length + (t0 :: tl).length) listed a w := by
  have hpick : ∀ ts : List Nat, (∀ i ∈ ts, i ∈ sk) → ts.map (ops[·]?) = (pickOps l ts).map some := fun ts hts => by
    rw [hops]; exact map_pick (fun i hi => by have := hlt i (List.mem_append.2 (.inl (hts i hi))); rw [hops] at this; simpa using this)
  have hnth : ∀ m, m ∈ sk → ops[m]? = some (nthOp l m) := fun m hm => by
    have h1 := hlt m (List.mem_append.2 (.inl hm))
    rw [hops] at h1 ⊢
    have h2 : m < l.length := by simpa using h1
    rw [nthOp_get l m h2]
    simp [h2]
  have hall : ∀ ts : List Nat, (ts.all fun i => sk.contains i) = true → ∀ i ∈ ts, i ∈ sk := fun ts h i hi => by
    have := List.all_eq_true.1 h i hi
    simpa using this
  intro p
  induction p with
  | tail last =>
    intro listed a w hS hin inv hB h
    simp only [planL, Bool.and_eq_true] at hB
    have hl := hall last hin
    have hm2 : (t0 :: tl).map (ops[·]?) = (pickOps l (t0 :: tl)).map some := by rw [hops]; exact map_pick (fun i hi => by have := hlt i (List.mem_append.2 (.inr hi)); rw [hops] at this; simpa using this)
    exact K_takes hsel hs hc hnt hQ hS _ _ last (pickOps l last) listed a hl (hpick last hl) inv hB.1 h (fun a' ha _ => wpAnyK_tail (t0 :: tl) _ _ a' w (fun _ h => h) hm2 hB.2 ha)
  | one ts m p ih =>
    intro listed a w hS hin inv hB h
    simp only [planIn, Bool.and_eq_true] at hin
    simp only [planL, Bool.and_eq_true, decide_eq_true_eq] at hB
    obtain ⟨hB1, hB2, hB3⟩ := hB
    have hts := hall ts hin.1
    have hm : m ∈ sk := by simpa using hin.2.1
    rw [show (planN (.one ts m p)).length + (t0 :: tl).length = ts.length + (((planN p).length + (t0 :: tl).length) + 1) by simp [planN]; omega]
    refine K_takes hsel hs hc hnt hQ hS _ _ ts (pickOps l ts) listed a hts (hpick ts hts) inv hB1 h (fun a' ha inv' => ?_)
    refine ⟨fun h1 => (by rw [hB2] at h1; cases h1), fun i hi => ?_⟩
    have hi0 := hi
    rw [hB2] at hi
    have hik : i = m := by simpa using hi
    subst hik
    refine wpOp_step (hnth i hm) (fun K hK => ?_)
    exact ha K (fun a' w' hS' hm' => hK a' w' ⟨fun _ => hS', ih _ a' w' hS' hin.2.2 (inv'.set hi0 (hnt i hm)) hB3 hm'⟩)
  | two ts m p m' p' ih ih' =>
    intro listed a w hS hin inv hB h
    simp only [planIn, Bool.and_eq_true, decide_eq_true_eq] at hin
    simp only [planL, Bool.and_eq_true, decide_eq_true_eq] at hB
    obtain ⟨hB1, hB2, hB3, hB4⟩ := hB
    obtain ⟨hi1, hi2, hi3, hi4, hi5, hi6⟩ := hin
    have hts := hall ts hi1
    have hm : m ∈ sk := by simpa using hi2
    have hm' : m' ∈ sk := by simpa using hi4
    rw [show (planN (.two ts m p m' p')).length + (t0 :: tl).length = ts.length + (((planN p).length + (t0 :: tl).length) + 1) by simp [planN]; omega]
    refine K_takes hsel hs hc hnt hQ hS _ _ ts (pickOps l ts) listed a hts (hpick ts hts) inv hB1 h (fun a' ha inv' => ?_)
    refine ⟨fun h1 => (by rw [hB2] at h1; cases h1), fun i hi => ?_⟩
    have hi0 := hi
    rw [hB2] at hi
    have hik : i = m ∨ i = m' := by simpa using hi
    rcases hik with rfl | rfl
    · refine wpOp_step (hnth i hm) (fun K hK => ?_)
      exact ha.1 K (fun a' w' hS' hm1 => hK a' w' ⟨fun _ => hS', ih _ a' w' hS' hi3 (inv'.set hi0 (hnt i hm)) hB3 hm1⟩)
    · refine wpOp_step (hnth i hm') (fun K hK => ?_)
      exact ha.2 K (fun a' w' hS' hm1 => hK a' w' ⟨fun _ => hS', by rw [hi6]; exact ih' _ a' w' hS' hi5 (inv'.set hi0 (hnt i hm')) hB4 hm1⟩)
def planB (md : Region.Mode) (ops : Array Oper) (p : Plan) (t0 : Nat) (tl : List Nat) : Bool :=
  Region.noSelect ops && sinkL md ops t0 (planN p) && chainL md ops t0 tl && (decide ((planN p).length + (tl.length + 1) = ops.size)) && ((planN p).all fun i => !(t0 :: tl).contains i) && ((planN p ++ t0 :: tl).all fun i => decide (i < ops.size)) && planIn (planN p) p && planL md ops (t0 :: tl) p (Array.replicate ops.size false)
/-- THE LAW. -/
theorem region_plan {id : Nat} {a : Act} {w : World} {l : List Oper} (S : World → Prop) (p : Plan) (t0 : Nat) (tl : List Nat) (hm : P.follows .mixedOrders = true) (hB : planB .any l.toArray p t0 tl = true)
    (hQ : ∀ c d v a w, Q (.panic c) (Act.put a d v) w → Q (.panic c) a w) (hS : S w.drew) (h : wpPlan P l.toArray Q S l (t0 :: tl) p a w.drew) : (Code.region id l.toArray true).wp P Q a w := by
  simp only [planB, Bool.and_eq_true, decide_eq_true_eq] at hB
  obtain ⟨⟨⟨⟨⟨⟨⟨hsel, hs⟩, hc⟩, hlen⟩, hn1⟩, hlt⟩, hin⟩, hsg⟩ := hB
  have hlt' : ∀ i ∈ planN p ++ t0 :: tl, i < l.toArray.size := fun i hi => by have := List.all_eq_true.1 hlt i hi; simpa using this
  have inv0 : HeadL .any l.toArray (t0 :: tl) (Array.replicate l.toArray.size false) :=
    ⟨by simp, fun j oj _ hl => (by rw [getD_replicate_false] at hl; cases hl), fun t ht => getD_in (by simpa using hlt' t (List.mem_append.2 (.inr ht))) (getD_replicate_false _ _)⟩
  refine wp_region_any hm ?_
  have := wpAny_of_K _ _ _ _ (K_plan (md := .any) (l := l) (sk := planN p) rfl hsel hs hc (fun i hi => by have := List.all_eq_true.1 hn1 i hi; simpa using this) hlt' hQ p _ a w.drew hS hin inv0 hsg h)
  rw [show (planN p).length + (t0 :: tl).length = l.toArray.size by rw [List.length_cons]; exact hlen] at this
  exact this
end
end Go.Proofs.YtamdhaoglapnnaaGreatDoor
end
section
/- Laws for one operation of a region that draws its order: a part of a block is read, a block is written. -/
namespace Go.Proofs.YtamdhaoglapnnaaGreatDoor
open Go.RowKit

theorem step_load_part {P : Program} (w : World) {ops : Array Oper} {o : Oper} {a : Act} {K : Act → World → Prop} {Q : Exit → Act → World → Prop} {E : Prop} (hgd : o.guard = none) (ty : TypeId) (x : Operand) (ho : o.op = .load ty x)
    (g i : Nat) (hx : a.eval x = .pointer (some ⟨g, i, none⟩)) (t : TypeId) (cs part r : List Value) (hg : Blk w g t cs) (hp : cs.drop i = part ++ r) (d : TypeDesc)
    (hu : P.underlying ty = some d) (hd : d.isRow = true) (hi : (P.info? ty).map (·.size) = some part.length) (h : K (a.put o.dst (.agg part.toArray)) w) :
    if Region.wanted o (yielded ops a.tmps) = true then Oper.wp P o a w K Q else E := by
  have hw : Region.wanted o (yielded ops a.tmps) = true := by simp [Region.wanted, hgd]
  rw [if_pos hw]
  exact wp_load_mid ty x ho g i hx part d (fun j v hv => by have := blk_src hg i part r hp j v hv; rwa [addr_add] at this) hu hd hi h
theorem step_store_blk {P : Program} (w : World) {ops : Array Oper} {op : Oper} {a : Act} {K : Act → World → Prop} {Q : Exit → Act → World → Prop} {E : Prop} (hgd : op.guard = none) (ty : TypeId) (x y : Operand) (ho : op.op = .store ty x y)
    (g : Nat) (cells : List Value) (hx : a.eval x = .pointer (some ⟨g, 0, none⟩)) (hy : a.eval y = .agg cells.toArray) (t : TypeId) (old : List Value) (hg : Blk w g t old) (hl : old.length = cells.length)
    (hi : (P.info? ty).map (·.size) = some cells.length) (h1 : ∀ v ∈ cells, v.oneCell' = true) (h : K (a.put op.dst undef) (w.setRow g cells.toArray)) :
    if Region.wanted op (yielded ops a.tmps) = true then Oper.wp P op a w K Q else E := by
  have hw : Region.wanted op (yielded ops a.tmps) = true := by simp [Region.wanted, hgd]
  rw [if_pos hw]
  unfold Oper.wp execOp
  simp only [ho, hx, hy, Instr.storeAt, Instr.sureAddr, Sem.run_bind, Sem.run_pure, Result.andThen_ok,
    run_storeVar_row (P := P) w g t ty old.toArray cells.toArray hg (by simpa using hi) (by simpa using hl) (all_oneCell_toArray h1)]
  exact h
theorem step_run {P : Program} (w w' : World) {ops : Array Oper} {o : Oper} {a : Act} {K : Act → World → Prop} {Q : Exit → Act → World → Prop} {E : Prop} (hgd : o.guard = none) (v : Value)
    (hrun : (execOp a.eval o).run P w = .ok (.value v) w') (h : K (a.put o.dst v) w') : if Region.wanted o (yielded ops a.tmps) = true then Oper.wp P o a w K Q else E := by
  have hw : Region.wanted o (yielded ops a.tmps) = true := by simp [Region.wanted, hgd]
  rw [if_pos hw]
  unfold Oper.wp
  rw [hrun]
  exact h
theorem exec_bslice1 {P : Program} {w w' : World} {o : Oper} {a : Act} (t : TypeId) (x : Operand) (ho : o.op = .buildSlice t 1 #[(0, x)]) (V r : Value) (hx : a.eval x = V) (h : (Instr.buildSlice t 1 #[(0, V)]).run P w = .ok r w') : (execOp a.eval o).run P w = .ok (.value r) w' := by
  simp only [execOp, ho, List.map_toArray, List.map_cons, List.map_nil, hx, Sem.run_bind, h, Result.andThen_ok, Sem.run_pure]
theorem exec_build4 {P : Program} {w : World} {o : Oper} {a : Act} (t : TypeId) (i0 i1 i2 i3 : Nat) (x0 x1 x2 x3 : Operand) (ho : o.op = .build t #[(i0, x0), (i1, x1), (i2, x2), (i3, x3)]) (V0 V1 V2 V3 r : Value) (h0 : a.eval x0 = V0) (h1 : a.eval x1 = V1) (h2 : a.eval x2 = V2) (h3 : a.eval x3 = V3)
    (h : (Instr.build t #[(i0, V0), (i1, V1), (i2, V2), (i3, V3)]).run P w = .ok r w) : (execOp a.eval o).run P w = .ok (.value r) w := by
  simp only [execOp, ho, List.map_toArray, List.map_cons, List.map_nil, h0, h1, h2, h3, Sem.run_bind, h, Result.andThen_ok, Sem.run_pure]
end Go.Proofs.YtamdhaoglapnnaaGreatDoor
end
section
/- The walks of commit.root and commit.ref. -/
namespace Go.Proofs.YtamdhaoglapnnaaGreatDoor
open Go.RowKit

theorem exec_eql_ref (w : World) {o : Oper} {a : Act} {x y : Operand} {yt : TypeId} (ho : o.op = .binOp .eql 276 x y yt) (r s : PRef) (hxe : a.eval x = refV r) (hye : a.eval y = refV s) (hr : r.com.length = 32) (hs : s.com.length = 32) :
    (execOp a.eval o).run Tryz.prog w = .ok (.value (.bool (r.own == s.own && (r.com == s.com && r.n == s.n)))) w := by
  have h1 : (eqGuard .eql 276 x y (refV r) (refV s)).run Tryz.prog w = .ok () w := run_eqGuard_agg (P := Tryz.prog) w .eql 276 x y _ _ Tryz.eqGuardType276
  simp only [execOp, ho, hxe, hye, Sem.run_bind, h1, Result.andThen_ok, run_eql_ref w r s hr hs, Sem.run_pure]
theorem wpList_eql_ref {ops : Array Oper} {rest : List Oper} {o : Oper} {a : Act} {w : World} {Q : Exit → Act → World → Prop} (hgd : o.guard = none) (x y : Operand) (yt : TypeId) (ho : o.op = .binOp .eql 276 x y yt)
    (r s : PRef) (hxe : a.eval x = refV r) (hye : a.eval y = refV s) (hr : r.com.length = 32) (hs : s.com.length = 32)
    (h : wpList Tryz.prog ops Q rest (a.put o.dst (.bool (r.own == s.own && (r.com == s.com && r.n == s.n)))) w) : wpList Tryz.prog ops Q (o :: rest) a w :=
  wpList_run _ ho hgd _ (exec_eql_ref w ho r s hxe hye hr hs) h
def rootRef : PRef := ⟨false, zeros, 0⟩
theorem root_eq (r : PRef) : (r.own == rootRef.own && (r.com == rootRef.com && r.n == rootRef.n)) = r.root := by
  unfold PRef.root rootRef
  cases r.own <;> simp
set_option maxRecDepth 100000 in
set_option maxHeartbeats 1000000 in
theorem root_any (r : PRef) (hr : r.com.length = 32) (w : World) : Calls Tryz.prog 273 #[refV r] w fun e w' => e = .returned (.bool r.root) ∧ Below w.heap.size w w' := by
  have hsr : (Tryz.prog.info? 276).map (·.size) = some (refCells r).length := by
    have e : (refCells r).length = 34 := by simp [refCells, hr]
    have e2 : (Tryz.prog.info? 276).map (·.size) = some 34 := by kernel_rfl
    rw [e2, e]
  have hz : (rootRef.com).length = 32 := by decide
  have hrt := root_eq r
  obtain ⟨q, hq⟩ : ∃ q, q = r.root := ⟨_, rfl⟩
  rw [← hq] at hrt ⊢
  replace hq := Lib.hid hq
  replace hsr := Lib.hid hsr
  replace hr := Lib.hid hr
  replace hz := Lib.hid hz
  replace hrt := Lib.hid hrt
  unfold refV
  go_enter Tryz.func273, Tryz.ntmps273
  go_wp2_with (first
    | (refine wpList_load_blk rfl 276 (.tmp 1) rfl w.heap.size rfl 276 (refCells r) (Blk.new_at rfl) _ Tryz.underlying276 rfl hsr.out ?_)
    | (refine wpList_eql_ref rfl (.tmp 3) (.tmp 4) _ rfl r rootRef rfl rfl hr.out hz.out ?_; rw [hrt.out]))
  go_ret
  exact ⟨rfl, (Below.refl _ _).alloc (Nat.le_refl _) _⟩
end Go.Proofs.YtamdhaoglapnnaaGreatDoor
end
section
/- Maps as lists of entries: look-ups and stores at keys that are digests, names of elements, texts. -/
namespace Go.Proofs.YtamdhaoglapnnaaGreatDoor
open Go.RowKit
open Go.Maps Go.MapKept Go.ChangeMaps

/-- Block b is a map with just these entries, in the order in which they came. -/
def MapV (w : World) (b : Nat) (es : List (Value × Value)) : Prop := ∃ xs clock, w.heap[b]? = some (.map xs clock) ∧ xs.toList.map (fun e => (e.key, e.val)) = es
theorem MapV.lt {w : World} {b : Nat} {es : List (Value × Value)} (h : MapV w b es) : b < w.heap.size := by
  obtain ⟨xs, c, h1, _⟩ := h
  obtain ⟨h2, _⟩ := Array.getElem?_eq_some_iff.1 h1
  exact h2
theorem MapV.block {w w' : World} {b : Nat} {es : List (Value × Value)} (h : MapV w b es) (hb : w'.heap[b]? = w.heap[b]?) : MapV w' b es := by
  obtain ⟨xs, c, h1, h2⟩ := h
  exact ⟨xs, c, by rw [hb, h1], h2⟩
theorem MapV.below {w w' : World} {b B : Nat} {es : List (Value × Value)} (h : MapV w b es) (hb : Below B w w') (hl : b < B) : MapV w' b es := h.block (hb.block _ hl)
theorem MapV.new (w : World) : MapV (w.alloc (.map #[] 0)) w.heap.size [] := ⟨#[], 0, heap_alloc_new w _, rfl⟩
theorem MapV.alloc {w : World} {b : Nat} {es : List (Value × Value)} (h : MapV w b es) (o : Obj) : MapV (w.alloc o) b es := h.block (heap_alloc_old w o h.lt)
/-- What the laws ask of a map's keys. -/
structure KeyOk (P : Program) (K : TypeId) (ok : Value → Prop) : Prop where
  check : ∀ (w : World) (em : Bool) (v : Value), ok v → (Instr.checkKey em 10000 K v).run P w = .ok () w
  find : ∀ (w : World) (x : Value), ok x → ∀ es : List MapEntry, (∀ e ∈ es, ok e.key) →
    ((Instr.findKey K x es).run P w = .ok none w ∧ ∀ e ∈ es, e.key ≠ x) ∨ ∃ j e, (Instr.findKey K x es).run P w = .ok (some (j, e.val)) w ∧ es[j]? = some e ∧ e.key = x
theorem KeyOk.of_keyed {P : Program} {K : TypeId} (h : Keyed P K) : KeyOk P K (fun v => ∃ l, keyOf P K v = some l) where
  check := fun w em _ ⟨_, hl⟩ => h.check w em hl
  find := fun w _ ⟨_, hl⟩ es hes => h.find w hl es hes
theorem findAsking_eq {P : Program} (w : World) {K : TypeId} {ok : Value → Prop} (heq : ∀ x y, ok x → ok y → ∃ r : Bool, (Op.equal K x y).run P w = .ok r w ∧ (r = true ↔ x = y)) {x : Value} (hx : ok x) :
    ∀ (es : List MapEntry) (i : Nat), (∀ e ∈ es, ok e.key) →
      ((Instr.findAsking K x es i).run P w = .ok none w ∧ ∀ e ∈ es, e.key ≠ x) ∨ ∃ j e, (Instr.findAsking K x es i).run P w = .ok (some (i + j, e.val)) w ∧ es[j]? = some e ∧ e.key = x
  | [], i, _ => Or.inl ⟨by simp [Instr.findAsking], by simp⟩
  | e :: es, i, hall => by
    obtain ⟨r, hr, hiff⟩ := heq x e.key hx (hall e (by simp))
    cases r with
    | true =>
      right
      exact ⟨0, e, by simp [Instr.findAsking, hr], rfl, (hiff.1 rfl).symm⟩
    | false =>
      have hne : e.key ≠ x := fun h => by
        have := hiff.2 h.symm
        cases this
      rcases findAsking_eq w heq hx es (i + 1) (fun y hy => hall y (by simp [hy])) with ⟨h1, h2⟩ | ⟨j, e', h1, h2, h3⟩
      · left
        refine ⟨by simp [Instr.findAsking, hr, h1], fun y hy => ?_⟩
        rcases List.mem_cons.1 hy with rfl | hy
        · exact hne
        · exact h2 y hy
      · right
        exact ⟨j + 1, e', by simp [Instr.findAsking, hr, h1, Nat.add_assoc, Nat.add_comm 1 j], by simpa using h2, h3⟩

section
variable {P : Program} {w : World} {t k e : TypeId} {b : Nat} {es : List (Value × Value)} {ok : Value → Prop} {key : Value}
theorem entries_ok {xs : Array MapEntry} (h2 : xs.toList.map (fun e => (e.key, e.val)) = es) (hes : ∀ p ∈ es, ok p.1) : ∀ x ∈ xs.toList, ok x.key := fun x hx => hes (x.key, x.val) (by rw [← h2]; exact List.mem_map.2 ⟨x, hx, rfl⟩)
theorem MapV.look_none (h : MapV w b es) (K : KeyOk P k ok) (ht : P.underlying t = some (.map k e)) {z : Value} (hz : (zeroValue e).run P w = .ok z w) (hes : ∀ p ∈ es, ok p.1) (hk : ok key) (hn : ∀ p ∈ es, p.1 ≠ key) (c : Bool) :
    (Instr.lookup t (.map (some b)) key c).run P w = .ok (if c then .tuple #[z, .bool false] else z) w := by
  obtain ⟨xs, clock, hb, h2⟩ := h
  rcases K.find w key hk xs.toList (entries_ok h2 hes) with ⟨h1, _⟩ | ⟨j, x, _, h3, h4⟩
  · simp [Instr.lookup, run_underlying ht, MapKept.run_getObj_map hb, K.check w _ key hk, h1, hz, Result.andThen]
  · exact absurd h4 (hn (x.key, x.val) (by rw [← h2]; exact List.mem_map.2 ⟨x, List.mem_of_getElem? h3, rfl⟩))
theorem MapV.look_some (h : MapV w b es) (K : KeyOk P k ok) (ht : P.underlying t = some (.map k e)) (hes : ∀ p ∈ es, ok p.1) (hk : ok key) {v : Value} (hm : (key, v) ∈ es) (hu : ∀ p ∈ es, p.1 = key → p.2 = v) (c : Bool) :
    (Instr.lookup t (.map (some b)) key c).run P w = .ok (if c then .tuple #[v, .bool true] else v) w := by
  obtain ⟨xs, clock, hb, h2⟩ := h
  rcases K.find w key hk xs.toList (entries_ok h2 hes) with ⟨_, h1⟩ | ⟨j, x, h1, h3, h4⟩
  · rw [← h2] at hm
    obtain ⟨x, hx, he⟩ := List.mem_map.1 hm
    exact absurd (congrArg Prod.fst he) (h1 x hx)
  · have hv : x.val = v := hu (x.key, x.val) (by rw [← h2]; exact List.mem_map.2 ⟨x, List.mem_of_getElem? h3, rfl⟩) h4
    simp [Instr.lookup, run_underlying ht, MapKept.run_getObj_map hb, K.check w _ key hk, h1, hv, Result.andThen]
theorem MapV.store (h : MapV w b es) (K : KeyOk P k ok) (ht : P.underlying t = some (.map k e)) (hes : ∀ p ∈ es, ok p.1) (hk : ok key) (hn : ∀ p ∈ es, p.1 ≠ key) (v : Value) :
    ∃ w', (Instr.mapUpdate t (.map (some b)) key v).run P w = .ok () w' ∧ MapV w' b (es ++ [(key, v)]) ∧ w.mapTurned w' b := by
  obtain ⟨xs, clock, hb, h2⟩ := h
  rcases K.find w key hk xs.toList (entries_ok h2 hes) with ⟨h1, _⟩ | ⟨j, x, _, h3, h4⟩
  · refine ⟨setBlock w b (.map (xs.push ⟨key, v, clock⟩) (clock + 1)), ?_, ⟨xs.push ⟨key, v, clock⟩, clock + 1, ?_, ?_⟩, ⟨xs, clock, _, _, hb, rfl⟩⟩
    · simp [Instr.mapUpdate, run_underlying ht, MapKept.run_getObj_map hb, K.check w false key hk, h1, MapKept.run_setObj_map _ hb, Result.andThen, setBlock]
    · obtain ⟨hl, _⟩ := Array.getElem?_eq_some_iff.1 hb
      simp [setBlock, hl]
    · simp [h2]
  · exact absurd h4 (hn (x.key, x.val) (by rw [← h2]; exact List.mem_map.2 ⟨x, List.mem_of_getElem? h3, rfl⟩))
theorem MapV.len (h : MapV w b es) (ht : P.underlying t = some (.map k e)) (ty : TypeId) : (Builtin.len_ #[t] ty #[.map (some b)]).run P w = .ok (.int .i64 es.length) w := by
  obtain ⟨xs, clock, hb, h2⟩ := h
  have hl : (es.length : Int) = xs.size := by rw [← h2]; simp
  simp [Builtin.len_, run_underlying ht, MapKept.run_getObj_map hb, Result.andThen, goInt, hl]
end

def digK (v : Value) : Prop := ∃ d : Str, d.length = 32 ∧ v = .agg (d.map B).toArray
def refK (v : Value) : Prop := ∃ r : PRef, r.com.length = 32 ∧ v = refV r
theorem check_dig (w : World) (em : Bool) (d : Str) (hd : d.length = 32) : (Instr.checkKey em 10000 115 (.agg (d.map B).toArray)).run Tryz.prog w = .ok () w := by
  iterate 32 (rcases d with _ | ⟨_, d⟩; · (exfalso; simp at hd; done))
  obtain rfl : d = [] := by
    simp only [List.length_cons] at hd
    exact List.length_eq_zero_iff.1 (by omega)
  kernel_rfl
theorem check_ref (w : World) (em : Bool) (r : PRef) (hr : r.com.length = 32) : (Instr.checkKey em 10000 276 (refV r)).run Tryz.prog w = .ok () w := by
  obtain ⟨o, d, n⟩ := r
  dsimp only at hr
  iterate 32 (rcases d with _ | ⟨_, d⟩; · (exfalso; simp at hr; done))
  obtain rfl : d = [] := by
    simp only [List.length_cons] at hr
    exact List.length_eq_zero_iff.1 (by omega)
  kernel_rfl
theorem B_inj {xs ys : Str} (h : xs.map B = ys.map B) : xs = ys := List.map_inj_right (fun a b hab => bv_inj (by injection hab)) |>.1 h
theorem dig_inj {xs ys : Str} : ((Value.agg (xs.map B).toArray) = .agg (ys.map B).toArray) ↔ xs = ys := by
  constructor
  · intro h
    injection h with h
    exact B_inj (by simpa using congrArg Array.toList h)
  · rintro rfl
    rfl
theorem refCells_inj {r s : PRef} (h : refCells r = refCells s) (hr : r.com.length = 32) (hs : s.com.length = 32) : r = s := by
  obtain ⟨o, d, n⟩ := r
  obtain ⟨o', d', n'⟩ := s
  simp only [refCells, List.cons.injEq] at h
  obtain ⟨h1, h2⟩ := h
  have h3 := List.append_inj h2 (by simp_all)
  have h4 := B_inj h3.1
  have h5 := h3.2
  simp_all
theorem refV_inj {r s : PRef} (hr : r.com.length = 32) (hs : s.com.length = 32) : (refV r = refV s) ↔ r = s := by
  constructor
  · intro h
    unfold refV at h
    injection h with h
    exact refCells_inj (by simpa using congrArg Array.toList h) hr hs
  · rintro rfl
    rfl
theorem digKeys : KeyOk Tryz.prog 115 digK where
  check := fun w em v ⟨d, hd, hv⟩ => by rw [hv]; exact check_dig w em d hd
  find := fun w x hx es hes => by
    rw [run_findKey_eq w (by kernel_rfl)]
    simpa using findAsking_eq w (ok := digK) (fun x y ⟨d, hd, hx⟩ ⟨d', hd', hy⟩ => by
      have h := run_equalIn_arr (P := Tryz.prog) w 9999 115 5 32 Tryz.underlying115 Tryz.underlying5 (by kernel_rfl) d d' hd hd' (fun a b => by rw [run_equalIn_int (P := Tryz.prog) w 9998 5 .u8 .u8 (bv a) (bv b) Tryz.underlying5, bv_beq])
      rw [hx, hy]
      exact ⟨_, h, by rw [dig_inj, beq_iff_eq]⟩) hx es 0 hes
theorem refKeys : KeyOk Tryz.prog 276 refK where
  check := fun w em v ⟨d, hd, hv⟩ => by rw [hv]; exact check_ref w em d hd
  find := fun w x hx es hes => by
    rw [run_findKey_eq w (by kernel_rfl)]
    simpa using findAsking_eq w (ok := refK) (fun x y ⟨d, hd, hx⟩ ⟨d', hd', hy⟩ => by
      have h := run_equalIn_ref w d d' hd hd'
      rw [hx, hy]
      refine ⟨_, h, ?_⟩
      rw [refV_inj hd hd']
      cases d; cases d'
      simp) hx es 0 hes
end Go.Proofs.YtamdhaoglapnnaaGreatDoor
end
section
/- Laws for one operation more: look-ups, stores into maps, what turns the world without a value; two Refs held against each other. -/
namespace Go.Proofs.YtamdhaoglapnnaaGreatDoor
open Go.RowKit

theorem exec_lookup {P : Program} {w : World} {o : Oper} {a : Act} (t : TypeId) (x k : Operand) (c : Bool) (ho : o.op = .lookup t x k c) (M K r : Value) (hx : a.eval x = M) (hk : a.eval k = K) (h : (Instr.lookup t M K c).run P w = .ok r w) : (execOp a.eval o).run P w = .ok (.value r) w := by
  simp only [execOp, ho, hx, hk, Sem.run_bind, h, Result.andThen_ok, Sem.run_pure]
theorem exec_mapUpdate {P : Program} {w w' : World} {o : Oper} {a : Act} (t : TypeId) (m k x : Operand) (ho : o.op = .mapUpdate t m k x) (M K X : Value) (hm : a.eval m = M) (hk : a.eval k = K) (hx : a.eval x = X) (h : (Instr.mapUpdate t M K X).run P w = .ok () w') : (execOp a.eval o).run P w = .ok .skip w' := by
  simp only [execOp, ho, hm, hk, hx, Sem.run_bind, h, Result.andThen_ok, Sem.run_pure]
theorem wpList_skip {P : Program} {ops : Array Oper} {rest : List Oper} {o : Oper} {a : Act} {w w' : World} {Q : Exit → Act → World → Prop} (hgd : o.guard = none)
    (hrun : (execOp a.eval o).run P w = .ok .skip w') (h : wpList P ops Q rest (a.put o.dst undef) w') : wpList P ops Q (o :: rest) a w := by
  refine wpList_plain hgd fun _ hK => ?_
  unfold Oper.wp
  rw [hrun]
  exact hK _ _ h
theorem wpList_value {P : Program} {ops : Array Oper} {rest : List Oper} {o : Oper} {a : Act} {w w' : World} {Q : Exit → Act → World → Prop} (hgd : o.guard = none) (v : Value)
    (hrun : (execOp a.eval o).run P w = .ok (.value v) w') (h : wpList P ops Q rest (a.put o.dst v) w') : wpList P ops Q (o :: rest) a w := by
  refine wpList_plain hgd fun _ hK => ?_
  unfold Oper.wp
  rw [hrun]
  exact hK _ _ h
theorem exec_neq_ref (w : World) {o : Oper} {a : Act} {x y : Operand} {yt : TypeId} (ho : o.op = .binOp .neq 276 x y yt) (r s : PRef) (hxe : a.eval x = refV r) (hye : a.eval y = refV s) (hr : r.com.length = 32) (hs : s.com.length = 32) :
    (execOp a.eval o).run Tryz.prog w = .ok (.value (.bool (!(r.own == s.own && (r.com == s.com && r.n == s.n))))) w := by
  have h1 : (eqGuard .neq 276 x y (refV r) (refV s)).run Tryz.prog w = .ok () w := run_eqGuard_agg (P := Tryz.prog) w .neq 276 x y _ _ Tryz.eqGuardType276
  have h2 : (binOp .neq 276 (refV r) (refV s)).run Tryz.prog w = .ok (.bool (!(r.own == s.own && (r.com == s.com && r.n == s.n)))) w := by
    have h := run_equalIn_ref w r s hr hs
    unfold refV at h ⊢
    rw [run_neq_struct, h]
    rfl
  simp only [execOp, ho, hxe, hye, Sem.run_bind, h1, Result.andThen_ok, h2, Sem.run_pure]
end Go.Proofs.YtamdhaoglapnnaaGreatDoor
end
section
/- The tree of a text: in memory; one without elements. -/
namespace Go.Proofs.YtamdhaoglapnnaaGreatDoor
open Go.RowKit

def nodeCells (r : PRef) (b : UInt8) (gone : Bool) (l rt : Value) : List Value := refCells r ++ [B b, .bool gone, l, rt]
abbrev nilS : Value := .slice none 0 0
structure TreeAt (w : World) (tb nb mb ab : Nat) (seen : Int) (es us : List (Value × Value)) (right : Value) : Prop where
  tree : Blk w tb 357 [.pointer (some ⟨nb, 0, none⟩), .map (some mb), .map (some ab), .int .i64 seen]
  root : Blk w nb 354 (nodeCells rootRef 0 true nilS right)
  by_ : MapV w mb es
  added : MapV w ab us
theorem TreeAt.below {w w' : World} {tb nb mb ab : Nat} {seen : Int} {es us : List (Value × Value)} {right : Value} (h : TreeAt w tb nb mb ab seen es us right) (hb : Below w.heap.size w w') : TreeAt w' tb nb mb ab seen es us right :=
  ⟨h.tree.below hb h.tree.lt, h.root.below hb h.root.lt, h.by_.below hb h.by_.lt, h.added.below hb h.added.lt⟩
theorem fmade_any (tb nb mb ab : Nat) (seen : Int) (es us : List (Value × Value)) (right : Value) (w : World) (h : TreeAt w tb nb mb ab seen es us right) :
    Calls Tryz.prog 262 #[.pointer (some ⟨tb, 0, none⟩)] w fun e w' => e = .returned (.bool true) ∧ w' = w := by
  have c0 : w.cell? ⟨tb, 0, none⟩ = some (.pointer (some ⟨nb, 0, none⟩)) := by rw [h.tree.cell]; rfl
  clear h
  go_enter Tryz.func262, Tryz.ntmps262
  go_wp2
  go_ret
  exact ⟨rfl, rfl⟩
theorem MapV.new_at {w : World} {b : Nat} (h : b = w.heap.size) : MapV (w.alloc (.map #[] 0)) b [] := by
  subst h
  exact MapV.new w
set_option maxRecDepth 100000 in
set_option maxHeartbeats 1000000 in
theorem fnew_any (w : World) : Calls Tryz.prog 192 #[] w fun e w' => ∃ tb nb mb ab, e = .returned (.pointer (some ⟨tb, 0, none⟩)) ∧ TreeAt w' tb nb mb ab 0 [] [] nilS ∧ w.heap.size ≤ nb ∧ nb < mb ∧ mb < ab ∧ ab < tb ∧ Below w.heap.size w w' := by
  have hmm := @run_makeMap Tryz.prog
  go_enter Tryz.func192, Tryz.ntmps192
  go_wp2
  go_ret
  refine ⟨w.heap.size + 1 + 1 + 1, w.heap.size, w.heap.size + 1, w.heap.size + 1 + 1, rfl, ⟨Blk.new_at (cs := [.pointer (some ⟨w.heap.size, 0, none⟩), .map (some (w.heap.size + 1)), .map (some (w.heap.size + 1 + 1)), .int .i64 0]) (by simp), ?_, ?_, ?_⟩, Nat.le_refl _, by omega, by omega, by omega, ?_⟩
  · exact (((Blk.new_at (cs := nodeCells rootRef 0 true nilS nilS) rfl).alloc _).alloc _).alloc _
  · exact ((MapV.new_at (by simp)).alloc _).alloc _
  · exact (MapV.new_at (by simp)).alloc _
  · exact ((((Below.refl _ _).alloc (Nat.le_refl _) _).alloc (by simp) _).alloc (by simp; omega) _).alloc (by simp; omega) _
theorem ret_blk3 {P : Program} {fn : Func} {R : Ending → World → Prop} {a : Act} {w : World} {p u v : Tmp} {ty : TypeId} (hres : fn.results = #[.cell p ty, .tmp u, .tmp v]) (g : Nat) (t : TypeId) (cs : List Value) (d : TypeDesc)
    (hp : a.tmps.getD p undef = .pointer (some ⟨g, 0, none⟩)) (hg : Blk w g t cs) (hu : P.underlying ty = some d) (hd : (match d with | .struct _ | .array _ _ => true | _ => false) = true)
    (hi : (P.info? ty).map (·.size) = some cs.length) (hdef : a.defers = []) (x y : Value) (hx : a.tmps.getD u undef = x) (hy : a.tmps.getD v undef = y) (hR : R (.returned (.tuple #[.agg cs.toArray, x, y])) w) : bodyPost P fn R .ret a w := by
  refine bodyPost_ret (v := .tuple #[.agg cs.toArray, x, y]) ?_ hdef hR
  have hp' : a.tmps[p]?.getD undef = .pointer (some ⟨g, 0, none⟩) := by simpa using hp
  have hx' : a.tmps[u]?.getD undef = x := by simpa using hx
  have hy' : a.tmps[v]?.getD undef = y := by simpa using hy
  simp [results, hres, hp', hx', hy', asAddr, run_loadVar_row w g t ty cs.toArray (0, 0) d hg hu hd (by simpa using hi), Result.andThen]
theorem run_makeMap0 {P : Program} {t k e : TypeId} (ht : P.underlying t = some (.map k e)) (w : World) : (Instr.makeMap t (some (.int .i64 0))).run P w = .ok (.map (some w.heap.size)) (w.alloc (.map #[] 0)) := by
  simp [Instr.makeMap, run_underlying ht, asInt, asIntOf, Result.andThen]
end Go.Proofs.YtamdhaoglapnnaaGreatDoor
end
