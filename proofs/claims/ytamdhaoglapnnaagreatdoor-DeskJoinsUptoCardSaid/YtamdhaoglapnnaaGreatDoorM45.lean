/- 'for line := range strings.Lines(s)' whose rounds may turn maps. -/
import Derived.Test.YtamdhaoglapnnaaGreatDoorM10
import Derived.Test.YtamdhaoglapnnaaGreatDoorM39
import Derived.Test.YtamdhaoglapnnaaGreatDoorM07
import Derived.OrdersIn
import Derived.Test.YtamdhaoglapnnaaGreatDoorM43
import Derived.Test.YtamdhaoglapnnaaGreatDoorM44
section
namespace Go.Proofs.YtamdhaoglapnnaaGreatDoor
open Go.RowKit Go.Shelf
attribute [local go_sem] Oper.semAt_some

/-- The records of statements lie as they lay. -/
structure KeepM (W W' : World) : Prop where
  same : ∀ (k : Nat) (o : Obj), W.heap[k]? = some o → isMark o = true → W'.heap[k]? = some o
theorem KeepM.trans {A B C : World} (h : KeepM A B) (k : KeepM B C) : KeepM A C := ⟨fun i o hi ho => k.same i o (h.same i o hi ho) ho⟩
theorem KeepM.below {W W' : World} (h : Below W.heap.size W W') : KeepM W W' := ⟨fun k _ ho _ => (h.block k (lt_of_heap ho)).trans ho⟩
theorem isMark_cells {o : Obj} (h : isMark o = true) : o.isCells = false := by cases o <;> simp_all [isMark, Obj.isCells]
theorem KeepTag.marks {W W' : World} (h : KeepTag W W') : KeepM W W' := ⟨fun k o ho hm => h.other k o ho (isMark_cells hm)⟩
def CalmM (B0 Bs : Nat) (I : List Str → World → Prop) : Prop := ∀ s A B row, I s A → A.grownBy B row → (∀ r, row = some r → (r = Bs ∧ ∃ cs, Blk A Bs 9 cs) ∨ (B0 ≤ r ∧ ∃ o : Obj, A.heap[r]? = some o ∧ isMark o = true)) → I s B
theorem CalmM.put {B0 Bs l : Nat} {I : List Str → World → Prop} (hI : CalmM B0 Bs I) {s : List Str} {W : World} {o : Obj} (o' : Obj) (hB : B0 ≤ l) (h : I s W) (hl : W.heap[l]? = some o) (ho : isMark o = true) : I s (W.putObj l o') :=
  hI s W _ _ h (grownBy_putObj' W l o') (fun r e => by cases e; exact .inr ⟨hB, o, hl, ho⟩)
theorem CalmM.alloc {B0 Bs : Nat} {I : List Str → World → Prop} (hI : CalmM B0 Bs I) {s : List Str} {W : World} (o : Obj) (h : I s W) : I s (W.alloc o) :=
  hI s W _ _ h (World.grownBy_alloc W o none) (fun r e => by cases e)
def markPost (Kp : World → World → Prop) (I : List Str → World → Prop) (xs : List Str) (W : World) : Exit → Act → World → Prop
  | .normal, _, W' => KeepM W W' ∧ Kp W W' ∧ I xs W'
  | _, _, _ => False

set_option maxHeartbeats 4000000 in
theorem wp_range_linesM {g : Operand} {ps : Array Tmp} {assign body : Code} {Q : Exit → Act → World → Prop} {a : Act} {w : World} (Bs : Nat) (s : Str) (hs : s.length ≤ 4294967296)
    (hg : a.eval g = .func (.func 49) #[] #[.pointer (some ⟨Bs, 0, none⟩)]) (hps : ps.size = 1) (hB : Blk w Bs 9 [strV s])
    (I : List Str → World → Prop) (hI : CalmM w.heap.size Bs I) (h0 : I [] w) (a₁ : Str → Act)
    (hassign : ∀ (l : Nat) (x : Str) (W : World) (K : Act → World → Prop), K (a₁ x) W →
      assign.wpIn (Fence.wide.inRound l) 0 Tryz.prog (Exit.then K (fun _ _ _ => False)) { tmps := (ps.zip #[strV x]).foldl (fun t (p, v) => t.setIfInBounds p v) a.tmps, defers := [] } W)
    (hbody : ∀ (l : Nat) (pre : List Str) (x : Str) (W : World), I pre W → x.length ≤ s.length → (∃ r, linesOf s = pre ++ x :: r) → body.wpIn (Fence.wide.inRound l) 0 Tryz.prog (markPost (KeepStr Bs) I (pre ++ [x]) W) (a₁ x) W)
    (hdone : ∀ (D : Nat) (W : World), w.heap.size ≤ D → I (linesOf s) W → W.heap[D]? = some (.deferred (some [])) → Q .normal { a with defers := { target := .collected D, args := #[] } :: a.defers } W) :
    (Code.rangeFunc g ps assign body).wp Tryz.prog Q a w := by
  refine (wpIn_wide (n := 0)).1 (wpIn_rangeFunc ?_)
  intro fn hfn
  rw [show Fence.wide.round = none from rfl]
  obtain ⟨rec, hrec⟩ : ∃ rec : LoopState → Option Code → Loop, rec = fun st pe => { state := st, pending := pe, fn, tmps := a.tmps, params := ps, assign, body, defers := w.heap.size } := ⟨_, rfl⟩
  obtain ⟨W1, hW1⟩ : ∃ W1, (w.alloc (.deferred (some []))).alloc (.loop (rec .ready none)) = W1 := ⟨_, rfl⟩
  have hBlt := hB.lt
  have hL1 : W1.heap[w.heap.size + 1]? = some (.loop (rec .ready none)) := by
    rw [← hW1]; have := World.alloc_heap_new (w.alloc (.deferred (some []))) (.loop (rec .ready none)); rwa [World.size_alloc] at this
  have hK1 : W1.heap[w.heap.size]? = some (.deferred (some [])) := by
    rw [← hW1]; exact (Below.heap_alloc _ _ _ (by simp)).trans (World.alloc_heap_new w _)
  have hI1 : I [] W1 := by rw [← hW1]; exact hI.alloc _ (hI.alloc _ h0)
  have hB1 : Blk W1 Bs 9 [strV s] := by rw [← hW1]; exact (hB.alloc _).alloc _
  refine ⟨w.heap.size + 1, [{ target := .collected w.heap.size, args := #[] }], W1, { target := .fn (.func 49) #[.pointer (some ⟨Bs, 0, none⟩)], args := #[.func (.yield (w.heap.size + 1)) #[] #[]] }, W1, 49,
    #[.func (.yield (w.heap.size + 1)) #[] #[], .pointer (some ⟨Bs, 0, none⟩)], W1, ?_, ?_, ?_, ?_, fun h => (by cases h), ?_⟩
  · rw [← hW1, hrec]; exact run_enterLoop_outer _ _ _ _ _
  · simp only [resolve, hg]
    simp [go_sem]
  · exact fun _ _ => trivial
  · simp [invoke, go_sem]
  · refine (lines_in (0 - 1) (w.heap.size + 1) Bs s hs
      (fun pre W => I pre W ∧ W.heap[w.heap.size + 1]? = some (.loop (rec .ready none)) ∧ W.heap[w.heap.size]? = some (.deferred (some [])))
      (fun _ _ => False)
      W1 ?_ ?_ hB1 ⟨hI1, hL1, hK1⟩).mono ?_
    · rintro pre A B ⟨hi, hl, hk⟩ hgr hS
      have b1 := (Array.getElem?_eq_some_iff.1 hl).1
      have b2 := (Array.getElem?_eq_some_iff.1 hk).1
      refine ⟨hI _ _ _ _ hi hgr (fun r e => by cases e; exact .inl ⟨rfl, hS⟩), ?_, ?_⟩
      · exact (hgr.block _ b1 (fun e => by cases e; omega)).trans hl
      · exact (hgr.block _ b2 (fun e => by cases e; omega)).trans hk
    · -- ONE ROUND
      rintro pre x W ⟨hi, hl, hk⟩ hlen hr
      have hlt : w.heap.size + 1 < W.heap.size := (Array.getElem?_eq_some_iff.1 hl).1
      have hy := run_yield (P := Tryz.prog) (args := #[strV x]) hl (by rw [hrec]; simp [hps])
      rw [hrec] at hy
      refine ⟨fn, _, assign, body, hy, roundIn_of_wpIn hfn (hassign _ x W _ ⟨_, run_beginRound hl (by rw [hrec]), ?_⟩)⟩
      have hl2 : (W.putObj (w.heap.size + 1) (.loop { rec .ready none with state := .busy })).heap[w.heap.size + 1]? = some (.loop { rec .ready none with state := .busy }) := World.putObj_heap_same hlt
      have hk2 : (W.putObj (w.heap.size + 1) (.loop { rec .ready none with state := .busy })).heap[w.heap.size]? = some (.deferred (some [])) := (World.putObj_heap_other (by omega)).trans hk
      have hw2 : KeepStr Bs W (W.putObj (w.heap.size + 1) (.loop { rec .ready none with state := .busy })) := KeepStr.put _ _ (by omega)
      refine wpIn_mono (hbody _ pre x _ (hI.put _ (by omega) hi hl rfl) hlen hr) ?_
      have fin : ∀ (jump : Option Code) (W3 : World), KeepM (W.putObj (w.heap.size + 1) (.loop { rec .ready none with state := .busy })) W3 →
          (Instr.endRound (w.heap.size + 1) jump).run Tryz.prog W3 = .ok (.bool jump.isNone) (W3.putObj (w.heap.size + 1) (.loop (rec (if jump.isNone then .ready else .done) jump))) ∧
          W3.heap[w.heap.size + 1]? = some (.loop { rec .ready none with state := .busy }) ∧
          (W3.putObj (w.heap.size + 1) (.loop (rec (if jump.isNone then .ready else .done) jump))).heap[w.heap.size + 1]? = some (.loop (rec (if jump.isNone then .ready else .done) jump)) ∧
          (W3.putObj (w.heap.size + 1) (.loop (rec (if jump.isNone then .ready else .done) jump))).heap[w.heap.size]? = some (.deferred (some [])) := fun jump W3 hk3 => by
        have hl3 := hk3.same _ _ hl2 rfl
        have := run_endRound (P := Tryz.prog) jump hl3
        rw [hrec] at this ⊢
        exact ⟨this, by rw [hrec] at hl3; exact hl3, World.putObj_heap_same (Array.getElem?_eq_some_iff.1 hl3).1, (World.putObj_heap_other (by omega)).trans (hk3.same _ _ hk2 rfl)⟩
      rintro e a3 W3 hp
      cases e with
      | normal =>
        obtain ⟨hk3, hkp3, hi3⟩ := hp
        obtain ⟨hr, hl3, hl4, hk4⟩ := fin none W3 hk3
        exact ⟨_, _, hr, .inl ⟨rfl, ⟨hI.put _ (by omega) hi3 hl3 rfl, hl4, hk4⟩, (hw2.trans hkp3).trans (KeepStr.put _ _ (by omega))⟩⟩
      | ret => exact hp.elim
      | exit id => exact hp.elim
      | goto t => exact hp.elim
      | panic ch => exact hp.elim
      | outgrown => exact hp.elim
    · rintro e W2 ⟨⟨v, rfl⟩, (⟨hi, hl, hk⟩ | ⟨pre, hf⟩)⟩
      · exact ⟨none, _, by have := run_endLoop (P := Tryz.prog) hl (by rw [hrec]; simp); rw [hrec] at this; exact this, hdone _ _ (Nat.le_refl _) (hI.put _ (by omega) hi hl rfl) ((World.putObj_heap_other (by omega)).trans hk)⟩
      · exact hf.elim

/-! A region that draws, in a round, by the plain walk. -/
theorem wpOpIn_of_plain {n l : Nat} {P : Program} {ops : Array Oper} {Q : Exit → Act → World → Prop} (hQ : ¬ LetsOut Q) (hL : ∀ (i : Nat) (o : Oper), ops[i]? = some o → noDefer o = true) (i : Nat) {K : Act → World → Prop} {a : Act} {w : World} (h : wpOp P ops Q i K a w) : wpOpIn (Fence.wide.inRound l) n P ops Q i K a w := by
  unfold wpOp at h
  unfold wpOpIn
  cases ho : ops[i]? with
  | none => rw [ho] at h; exact h
  | some o =>
    rw [ho] at h
    dsimp only at h ⊢
    split at h
    · rename_i hw
      rw [if_pos hw]
      rcases h with h | ⟨_, h⟩
      · refine ⟨fun _ _ => trivial, ?_⟩
        rw [Oper.semAt_plain _ _ _ (fun c hc => by have := hL i o ho; simp [noDefer, hc] at this)]
        exact uponIn_wide l _ h
      · exact absurd h hQ
    · rename_i hw
      rw [if_neg hw]
      exact ⟨fun _ _ => trivial, h⟩
theorem wpAnyIn_of_plain {n l : Nat} {P : Program} {ops : Array Oper} {Q : Exit → Act → World → Prop} {md : Region.Mode} (hQ : ¬ LetsOut Q) (hL : ∀ (i : Nat) (o : Oper), ops[i]? = some o → noDefer o = true) : ∀ (fuel : Nat) (listed : Array Bool) (a : Act) (w : World), wpAny P md ops Q fuel listed a w → wpAnyIn (Fence.wide.inRound l) n P md ops Q fuel listed a w
  | 0, _, _, _, h => h
  | fuel + 1, _, _, _, h => ⟨h.1, fun i hi => wpOpIn_mono (fun a w => wpAnyIn_of_plain hQ hL fuel _ a w) (wpOpIn_of_plain hQ hL i (h.2 i hi))⟩
theorem any_seg {P : Program} {Q : Exit → Act → World → Prop} {a : Act} {w : World} {l : List Oper} (S : World → Prop) (segs : List Seg) (last : List Nat) (t0 : Nat) (tl : List Nat) (hB : segB .any l.toArray segs last t0 tl = true)
    (hQ : ∀ c d v a w, Q (.panic c) (Act.put a d v) w → Q (.panic c) a w) (hS : S w.drew) (h : wpSeg P l.toArray Q S l last (t0 :: tl) segs a w.drew) : wpAny P .any l.toArray Q l.toArray.size (Array.replicate l.toArray.size false) a w.drew := by
  simp only [segB, Bool.and_eq_true, decide_eq_true_eq] at hB
  obtain ⟨⟨⟨⟨⟨⟨hsel, hs⟩, hc⟩, hlen⟩, hn1⟩, hlt⟩, hsg⟩ := hB
  have hlt' : ∀ i ∈ (segN segs ++ last) ++ t0 :: tl, i < l.toArray.size := fun i hi => by have := List.all_eq_true.1 hlt i hi; simpa using this
  have inv0 : HeadL .any l.toArray (t0 :: tl) (Array.replicate l.toArray.size false) :=
    ⟨by simp, fun j oj _ hl => (by rw [getD_replicate_false] at hl; cases hl), fun t ht => getD_in (by simpa using hlt' t (List.mem_append.2 (.inr ht))) (getD_replicate_false _ _)⟩
  have := wpAny_of_K _ _ _ _ (K_segs (md := .any) (l := l) (last := last) rfl hsel hs hc (fun i hi => by have := List.all_eq_true.1 hn1 i hi; simpa using this) hlt' hQ (fun i hi => List.mem_append.2 (.inr hi)) segs _ a w.drew hS (fun i hi => List.mem_append.2 (.inl hi)) inv0 hsg h)
  rw [show (segN segs).length + (last.length + (t0 :: tl).length) = l.toArray.size by rw [List.length_cons]; exact hlen] at this
  exact this
theorem wpIn_region_seg {n k id : Nat} {P : Program} {Q : Exit → Act → World → Prop} {a : Act} {w : World} {l : List Oper} (S : World → Prop) (segs : List Seg) (last : List Nat) (t0 : Nat) (tl : List Nat) (hm : P.follows .mixedOrders = true) (hB : segB .any l.toArray segs last t0 tl = true)
    (hQ : ∀ c d v a w, Q (.panic c) (Act.put a d v) w → Q (.panic c) a w) (hO : ¬ LetsOut Q) (hL : l.all noDefer = true) (hS : S w.drew) (h : wpSeg P l.toArray Q S l last (t0 :: tl) segs a w.drew) : (Code.region id l.toArray true).wpIn (Fence.wide.inRound k) n P Q a w :=
  wpIn_region_any hm (wpAnyIn_of_plain hO (fun i o hi => List.all_eq_true.1 hL o (by
    have : l[i]? = some o := by simpa using hi
    exact List.mem_of_getElem? this)) _ _ _ _ (any_seg S segs last t0 tl hB hQ hS h))
end Go.Proofs.YtamdhaoglapnnaaGreatDoor
end
section
/- A desk that plays the text of 'alive': what holds between two lines. -/
namespace Go.Proofs.YtamdhaoglapnnaaGreatDoor
open Go.RowKit

/-! What stays where blocks of a kind stay. -/
def StayB (w w' : World) (T : List TypeId) : Prop := (∀ k ty cs, Blk w k ty cs → ty ∉ T → w'.heap[k]? = w.heap[k]?) ∧ ∀ (k : Nat) (xs : Array MapEntry) (c : Nat), w.heap[k]? = some (.map xs c) → w'.heap[k]? = w.heap[k]?
theorem StayB.blk {w w' : World} {T : List TypeId} (h : StayB w w' T) {k : Nat} {ty : TypeId} {cs : List Value} (hB : Blk w k ty cs) (ht : ty ∉ T) : Blk w' k ty cs := (h.1 k ty cs hB ht).trans hB
theorem own_stay {w w' : World} {T : List TypeId} (h : StayB w w' T) {base : Nat} {e : TypeId} {sz n : Nat} {v : Value} {xs : List Value} (ho : w.ownsRow base e sz v n xs) (ht : e ∉ T) : w'.ownsRow base e sz v n xs := by
  rcases ho with ⟨h1, ⟨h2, h3⟩ | ⟨g, cap, cur, h2, h3, h4, h5⟩⟩
  · exact ⟨h1, .inl ⟨h2, h3⟩⟩
  · have hB : Blk w g e cur.toList := h4
    exact ⟨h1, .inr ⟨g, cap, cur, h2, h3, (h.1 g e _ hB ht).trans h4, h5⟩⟩
theorem OwnTab.stayT {w w' : World} {T : List TypeId} (h : StayB w w' T) {base : Nat} {v : Value} {l : Tab} (ho : OwnTab w base v l) (h1 : 138 ∉ T) (h2 : 115 ∉ T) : OwnTab w' base v l := by
  obtain ⟨vs, hl, hr, hh⟩ := ho
  exact ⟨vs, hl, own_stay h hr h1, fun k b u k1 k2 => (hh k b u k1 k2).keep (fun b cs _ hB => h.blk hB h2)⟩
theorem MapV.stayT {w w' : World} {T : List TypeId} (h : StayB w w' T) {b : Nat} {es : List (Value × Value)} (hM : MapV w b es) : MapV w' b es := by
  obtain ⟨xs, c, h1, h2⟩ := hM
  exact ⟨xs, c, (h.2 b xs c h1).trans h1, h2⟩
theorem OneV.stayT {n a t : Str} {r : Nat} {w w' : World} {T : List TypeId} (hs : StayB w w' T) (hT : ([104, 155, 283, 147, 138, 115].all fun x => !T.contains x) = true) (h : OneV n a t r w) : OneV n a t r w' := by
  have hn : ∀ x ∈ [104, 155, 283, 147, 138, 115], x ∉ T := fun x hx => by simpa using List.all_eq_true.1 hT x hx
  obtain ⟨lb, lc, rest, by', V, d, v, b, rb, g, base, k1, k2, k3, k4, k5, k6⟩ := h
  refine ⟨lb, lc, rest, by', V, d, v, b, rb, g, base, hs.blk k1 (hn _ (by simp)), hs.blk k2 (hn _ (by simp)), ?_, k4.stayT hs, hs.blk k5 (hn _ (by simp)), k6.stayT hs (hn _ (by simp)) (hn _ (by simp))⟩
  exact k3.stay (fun b hb _ => by
    obtain ⟨cs, hB⟩ := hb
    exact hs.1 b _ cs hB (hn _ (by simp))) (fun b hb _ => by
    obtain ⟨cs, hB⟩ := hb
    exact ⟨cs, hs.blk hB (hn _ (by simp))⟩)
theorem BIs.stayT {w w' : World} {T : List TypeId} (hs : StayB w w' T) (h1 : 51 ∉ T) (h2 : 5 ∉ T) {B b : Nat} {s : Str} (h : BIs B b s w) : BIs B b s w' := by
  have key : ∀ p, Lib.BuilderAt 51 5 B b p (Lib.byteCells s) w → Lib.BuilderAt 51 5 B b p (Lib.byteCells s) w' := by
    rintro p ⟨hB, v, hbk, hown, hne⟩
    have hX : Blk w b 51 [p, v] := hbk
    exact ⟨hB, v, (hs.1 b _ _ hX h1).trans hbk, own_stay hs hown h2, hne⟩
  rcases h with h | h
  · exact .inl (key _ h)
  · exact .inr (key _ h)
theorem MapIs.stayT {w w' : World} {T : List TypeId} (hs : StayB w w' T) {b : Nat} {D : DM} (h : MapIs w b D) : MapIs w' b D := by
  obtain ⟨es, c, h1⟩ := h.at
  exact h.block (hs.2 b es c h1)
theorem DiskAt.stayT {w w' : World} {T : List TypeId} (hs : StayB w w' T) {g bn bs : Nat} {v : Value} {S : DS} (h : DiskAt w g bn bs v S) (hp : S.pend = []) (h1 : 90 ∉ T) (h2 : 145 ∉ T) : DiskAt w' g bn bs v S := by
  obtain ⟨vs, hr, ho⟩ := h.row
  refine ⟨hs.blk h.blk h1, h.now.stayT hs, h.sure.stayT hs, h.ne, vs, own_stay hs hr h2, ?_⟩
  have hl := ho.1
  rw [hp] at hl ⊢
  obtain rfl : vs = [] := List.length_eq_zero_iff.1 hl.symm
  exact ⟨rfl, fun i o v h _ => by simp at h⟩
theorem Ref.stayT {w0 : World} {base rb g : Nat} {v : Value} {S : DS} {Tb : Tab} {w w' : World} {T : List TypeId} (hs : StayB w w' T) (hT : ([90, 145, 147, 138, 115].all fun x => !T.contains x) = true) (h : Ref w0 base rb g v S Tb w) (hp : S.pend = []) (hb : Below base w0 w') (hz : w.heap.size ≤ w'.heap.size) : Ref w0 base rb g v S Tb w' := by
  have hn : ∀ x ∈ [90, 145, 147, 138, 115], x ∉ T := fun x hx => by simpa using List.all_eq_true.1 hT x hx
  obtain ⟨L, ⟨bn, bs, pv, hD, hL⟩, hLb⟩ := h.disk
  exact ⟨⟨hb, Nat.le_trans h.size hz, L, ⟨bn, bs, pv, hD.stayT hs hp (hn _ (by simp)) (hn _ (by simp)), hL⟩, hLb⟩, h.low, hs.blk h.ref (hn _ (by simp)), h.own.stayT hs (hn _ (by simp)) (hn _ (by simp))⟩
theorem StayB.below {w w' : World} (h : Below w.heap.size w w') (T : List TypeId) : StayB w w' T := ⟨fun k _ _ hB _ => h.block k hB.lt, fun k _ _ ho => h.block k (lt_of_heap ho)⟩
theorem StayB.tag {w w' : World} (h : KeepTag w w') : StayB w w' [51, 5] :=
  ⟨fun k ty cs hB ht => (h.blk k ty cs hB (fun e => ht (by simp [e])) (fun e => ht (by simp [e]))).trans hB.symm, fun k xs c ho => (h.other k _ ho rfl).trans ho.symm⟩
theorem StayB.calm {A B : World} {row : Option Nat} {B0 Bs : Nat} (hg : A.grownBy B row) (hr : ∀ r, row = some r → (r = Bs ∧ ∃ cs, Blk A Bs 9 cs) ∨ (B0 ≤ r ∧ ∃ o : Obj, A.heap[r]? = some o ∧ isMark o = true)) : StayB A B [9] :=
  ⟨fun k ty cs hB ht => hg.block k hB.lt (fun e => by
    rcases hr _ e.symm with ⟨rfl, cs', hS⟩ | ⟨_, o, ho, hm⟩
    · exact ht (by simp [hB.unique hS])
    · exact mark_blk ho hm hB), fun k xs c hk => hg.block k (lt_of_heap hk) (fun e => by
    rcases hr _ e.symm with ⟨rfl, cs', hS⟩ | ⟨_, o, ho, hm⟩
    · unfold Blk at hS
      rw [hk] at hS
      cases hS
    · rw [hk] at ho
      cases ho
      cases hm)⟩
theorem StayB.keeps {w w' : World} (h : KeepsR w w') {k : Nat} {ty : TypeId} {cs : List Value} (hB : Blk w k ty cs) (h1 : ty ≠ 147) (h2 : ty ≠ 90) (h3 : ty ≠ 145) (h4 : ty ≠ 104) : Blk w' k ty cs := h.blk k ty cs hB h1 h2 h3 h4
theorem BIs.keepsR {w w' : World} (hs : KeepsR w w') {B b : Nat} {s : Str} (h : BIs B b s w) : BIs B b s w' := by
  have key : ∀ p, Lib.BuilderAt 51 5 B b p (Lib.byteCells s) w → Lib.BuilderAt 51 5 B b p (Lib.byteCells s) w' := by
    rintro p ⟨hB, v, hbk, hown, hne⟩
    have hX : Blk w b 51 [p, v] := hbk
    refine ⟨hB, v, hs.blk _ _ _ hX (by decide) (by decide) (by decide) (by decide), ?_, hne⟩
    rcases hown with ⟨h1, ⟨h2, h3⟩ | ⟨g, cap, cur, h2, h3, h4, h5⟩⟩
    · exact ⟨h1, .inl ⟨h2, h3⟩⟩
    · have hY : Blk w g 5 cur.toList := h4
      have := hs.blk _ _ _ hY (by decide) (by decide) (by decide) (by decide)
      exact ⟨h1, .inr ⟨g, cap, cur, h2, h3, this, h5⟩⟩
  rcases h with h | h
  · exact .inl (key _ h)
  · exact .inr (key _ h)
/-! The text of 'alive'. -/
def annS : Str := [97, 110, 110]
def mainS : Str := [109, 97, 105, 110]
def abS : Str := [97, 10, 98]
def aliveS : Str := [99, 111, 109, 109, 105, 116, 32, 109, 97, 105, 110, 32, 34, 34, 32, 34, 97, 92, 110, 98, 34, 10, 116, 101, 120, 116, 32, 109, 97, 105, 110, 10, 116, 101, 120, 116, 32, 120, 10, 104, 101, 108, 108, 111, 10]
def ln1 : Str := [99, 111, 109, 109, 105, 116, 32, 109, 97, 105, 110, 32, 34, 34, 32, 34, 97, 92, 110, 98, 34]
def ln2 : Str := [116, 101, 120, 116, 32, 109, 97, 105, 110]
def ln3 : Str := [116, 101, 120, 116, 32, 120]
def ln4 : Str := [104, 101, 108, 108, 111]
def alLines : List Str := [ln1 ++ [10], ln2 ++ [10], ln3 ++ [10], ln4 ++ [10]]
theorem lines_alive : linesOf aliveS = alLines := by decide +kernel
theorem trim_ln : ∀ l ∈ [ln1, ln2, ln3, ln4], Lib.trimSuffix (l ++ [10]) [10] = l := by decide +kernel
theorem words_of {l : List Wrd} {s : Str} (h : lineW l = s) (hn : l ≠ []) (ho : ∀ p ∈ l, wordOk p = true) : wordsS s = some l := by
  rw [← h]
  exact words_line l hn ho
theorem words1 : wordsS ln1 = some ((false, [99, 111, 109, 109, 105, 116]) :: [(false, mainS), (true, []), (true, abS)]) := words_of (by decide +kernel) (by simp) (by decide +kernel)
theorem words2 : wordsS ln2 = some ((false, [116, 101, 120, 116]) :: [(false, mainS)]) := words_of (by decide +kernel) (by simp) (by decide +kernel)
theorem words3 : wordsS ln3 = some ((false, [116, 101, 120, 116]) :: [(false, [120])]) := words_of (by decide +kernel) (by simp) (by decide +kernel)
theorem words4 : wordsS ln4 = some ((false, [104, 101, 108, 108, 111]) :: []) := words_of (by decide +kernel) (by simp) (by decide +kernel)
def idL : Str := [105, 100, 32] ++ hexOf (idT annS abS)
def txtL : Str := [116, 101, 120, 116, 32] ++ quoteS abS
theorem cmd_commit : cmdOf [99, 111, 109, 109, 105, 116] = .agg #[strV [98, 113, 113], .func (.func 37) #[] #[]] := rfl
theorem cmd_text : cmdOf [116, 101, 120, 116] = .agg #[strV [98], .func (.func 42) #[] #[]] := rfl
theorem cmd_hello : cmdOf [104, 101, 108, 108, 111] = noCmd := rfl
theorem line1_any {w0 : World} {base g rb : Nat} {v : Value} {w : World} (hb0 : base ≤ w0.heap.size) (h : Ref w0 base rb g v (DS.new 16777216) [] w) (d r by_ : Nat) (hR : Blk w r 104 (repoCells nilS by_ rb g annS false)) (hr : base ≤ r) (hD : Blk w d 36 (deskCells r g annS)) (hky : ∀ W, Below base w0 W → DeskIn W) :
    Calls Tryz.prog 13 #[.pointer (some ⟨d, 0, none⟩), strV ln1] w fun e w' => e = .returned (strV idL) ∧ KeepsR w w' ∧ OneV mainS annS abS r w' ∧ Below base w0 w' := by
  refine (line_cmd 37 (enters_of Tryz.func37 (by kernel_rfl) rfl) [98, 113, 113] _ cmd_commit (by simp) d r g annS ln1 _ w (by decide) words1 rfl (by simp) (by simp) ?_ hD (hky w h.bel).err
    (fun t en W => t = idL ∧ en = 0 ∧ KeepsR w W ∧ OneV mainS annS abS r W ∧ Below base w0 W) ?_).mono ?_
  · intro k h1 h2
    have : k = 0 ∨ k = 1 ∨ k = 2 := by simp at h1; omega
    rcases this with rfl | rfl | rfl <;> rfl
  · intro wb c rest W hb hW
    refine (dcommit_first annS abS mainS (by decide +kernel) (by decide +kernel) (by decide) (by decide) (h.below hb) (Live.new (by omega) (by omega)) (by simp [DS.new]) d r by_ wb c rest (hR.below hb hR.lt) hr (fun W hb => (hky W hb).keys) (hD.below hb hD.lt) hW).mono ?_
    rintro e w' ⟨he, hk, ho, hbb⟩
    exact ⟨_, 0, he, by omega, (hky _ hbb).tab, rfl, rfl, (KeepsR.below hb).trans hk, ho, hbb⟩
  · rintro e w' ⟨t, en, W0, ⟨rfl, rfl, hk, ho, hb⟩, rfl, hb2⟩
    exact ⟨rfl, hk.trans (KeepsR.below hb2), ho.below hb2, hb.trans (hb2.mono (Nat.le_trans hb0 hb.size))⟩
theorem linet_any {w : World} {r g d : Nat} (x s ln : Str) (en : Nat) (hen : en ≤ 1000) (hs : s.length ≤ 1000) (hl : ln.length ≤ 1000) (hw : wordsS ln = some ((false, [116, 101, 120, 116]) :: [(false, x)])) (hD : Blk w d 36 (deskCells r g annS)) (hI : DeskIn w)
    (hT : ∀ W, Below w.heap.size w W → Calls Tryz.prog 70 #[.pointer (some ⟨r, 0, none⟩), strV x] W fun e W' => e = .returned (.tuple #[strV s, .int .i64 (en : Int)]) ∧ Below W.heap.size W W') :
    Calls Tryz.prog 13 #[.pointer (some ⟨d, 0, none⟩), strV ln] w fun e w' => e = .returned (strV (if en = 0 then [116, 101, 120, 116, 32] ++ quoteS s else errS en)) ∧ Below w.heap.size w w' := by
  refine (line_cmd 42 (enters_of Tryz.func42 (by kernel_rfl) rfl) [98] _ cmd_text (by simp) d r g annS ln _ w (by omega) hw rfl (by simp) (by simp) ?_ hD hI.err
    (fun t e W => t = [116, 101, 120, 116, 32] ++ quoteS s ∧ e = en ∧ Below w.heap.size w W) ?_).mono ?_
  · intro k h1 h2
    have : k = 0 := by simp at h1; omega
    subst this
    rfl
  · intro wb c rest W hb hW
    refine (dtext_any d r g wb c annS x s en rest W (hD.below hb hD.lt) hW hs (fun W' hb' => hT W' (hb.trans (hb'.mono hb.size)))).mono ?_
    rintro e w' ⟨he, hbb⟩
    have hb2 := hb.trans (hbb.mono hb.size)
    exact ⟨_, en, he, hen, (hI.below hb2).tab, rfl, rfl, hb2⟩
  · rintro e w' ⟨t, e', W0, ⟨rfl, rfl, hb⟩, rfl, hb2⟩
    exact ⟨rfl, hb.trans (hb2.mono hb.size)⟩
theorem line2_any {w : World} {r g d : Nat} (hD : Blk w d 36 (deskCells r g annS)) (hI : DeskIn w) (hV : OneV mainS annS abS r w) :
    Calls Tryz.prog 13 #[.pointer (some ⟨d, 0, none⟩), strV ln2] w fun e w' => e = .returned (strV txtL) ∧ Below w.heap.size w w' :=
  linet_any mainS abS ln2 0 (by omega) (by decide) (by decide) words2 hD hI (fun W hb => (hV.below hb).text (by decide +kernel) (by decide +kernel) (by decide) (hI.below hb).keys)
theorem line3_any {w : World} {r g d : Nat} (hD : Blk w d 36 (deskCells r g annS)) (hI : DeskIn w) (hV : OneV mainS annS abS r w) :
    Calls Tryz.prog 13 #[.pointer (some ⟨d, 0, none⟩), strV ln3] w fun e w' => e = .returned (strV (errS 5)) ∧ Below w.heap.size w w' :=
  linet_any [120] [] ln3 5 (by omega) (by decide) (by decide) words3 hD hI (fun W hb => (hV.below hb).no (by decide +kernel) (by decide))
theorem line4_any {w : World} {r g d : Nat} (hD : Blk w d 36 (deskCells r g annS)) (hI : DeskIn w) :
    Calls Tryz.prog 13 #[.pointer (some ⟨d, 0, none⟩), strV ln4] w fun e w' => e = .returned (strV (errS 7)) ∧ Below w.heap.size w w' :=
  line_unknown [104, 101, 108, 108, 111] cmd_hello (by simp) d r g annS ln4 [] w (by decide) words4 hD hI.err hI.tab
/-! What holds between two lines. -/
def outL : Nat → Str
  | 0 => []
  | 1 => idL ++ [10]
  | 2 => idL ++ [10] ++ (txtL ++ [10])
  | 3 => idL ++ [10] ++ (txtL ++ [10]) ++ (errS 5 ++ [10])
  | _ => idL ++ [10] ++ (txtL ++ [10]) ++ (errS 5 ++ [10]) ++ (errS 7 ++ [10])
structure PlayI (w0 : World) (base g rb d r by_ : Nat) (v : Value) (p0 b : Nat) (j : Nat) (W : World) : Prop where
  bel : Below base w0 W
  size : b < W.heap.size
  box : Blk W p0 32 [.pointer (some ⟨d, 0, none⟩)]
  bld : BIs b b (outL j) W
  desk : Blk W d 36 (deskCells r g annS)
  st0 : j = 0 → Blk W r 104 (repoCells nilS by_ rb g annS false) ∧ Ref w0 base rb g v (DS.new 16777216) [] W
  st1 : 0 < j → OneV mainS annS abS r W
def PlayS (w0 : World) (base g rb d r by_ : Nat) (v : Value) (p0 b : Nat) (pre : List Str) (W : World) : Prop := ∃ j, j ≤ 4 ∧ pre = alLines.take j ∧ PlayI w0 base g rb d r by_ v p0 b j W
theorem PlayI.stayT {w0 : World} {base g rb d r by_ : Nat} {v : Value} {p0 b j : Nat} {W W' : World} (h : PlayI w0 base g rb d r by_ v p0 b j W) (hs : StayB W W' [9]) (hb : Below base w0 W') (hz : W.heap.size ≤ W'.heap.size) : PlayI w0 base g rb d r by_ v p0 b j W' :=
  ⟨hb, Nat.lt_of_lt_of_le h.size hz, hs.blk h.box (by decide), h.bld.stayT hs (by decide) (by decide), hs.blk h.desk (by decide), fun hj => ⟨hs.blk (h.st0 hj).1 (by decide), (h.st0 hj).2.stayT hs (by decide) rfl hb hz⟩, fun hj => (h.st1 hj).stayT hs (by decide)⟩
theorem PlayS.calm {w0 : World} {base g rb d r by_ : Nat} {v : Value} {p0 b B0 Bs : Nat} (hBs : base ≤ Bs) (hB0 : base ≤ B0) (hb0 : base ≤ w0.heap.size) : CalmM B0 Bs (PlayS w0 base g rb d r by_ v p0 b) := by
  rintro s A B row ⟨j, hj, he, h⟩ hg hr
  have hs := StayB.calm hg hr
  refine ⟨j, hj, he, h.stayT hs ?_ hg.size⟩
  exact h.bel.grown hg (Nat.le_trans hb0 h.bel.size) (fun k e => by
    rcases hr _ e with ⟨rfl, _⟩ | ⟨h, _⟩
    · exact hBs
    · omega)
end Go.Proofs.YtamdhaoglapnnaaGreatDoor
end
