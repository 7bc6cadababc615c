/- Joined: RfL3, RfL4. -/
import Derived.Test.YtlenmkemjaaaoaaDoorRjSp
import Derived.RangeFuncNested
import Derived.RangeFuncBound
import Derived.RangeFuncCalls
import Derived.RangeFuncLeaves
import Derived.Shelf.Abstract
import Derived.Shelf.RegionOpen
import Derived.WalkKit
import Derived.OwnWalkIn
import Derived.TacticsInMore
import Derived.LoopNIn
import Derived.LoopIn
import Derived.RangeFuncMany
import Derived.RangeFuncKeeps
section
/- The walk of strings.Lines' iterator: its state lies in a cell of its own. -/
namespace Go.Proofs.YtlenmkemjaaaoaaDoor
open Go.RowKit Go.Shelf
attribute [local go_sem] Oper.semAt_some

def KeepStr (Bs : Nat) (A B : World) : Prop := ∀ cs, Blk A Bs 9 cs → Blk B Bs 9 cs
/-- How much is left. -/
def restLen (Bs : Nat) (W : World) : Nat := match W.cell? ⟨Bs, 0, none⟩ with | some (.string b) => b.size | _ => 0
theorem restLen_eq {Bs : Nat} {W : World} {r : Str} (h : Blk W Bs 9 [strV r]) : restLen Bs W = r.length := by
  unfold restLen
  rw [h.cell]
  show (⟨r.toArray⟩ : ByteArray).size = _
  exact strLn r
theorem ixb10 (s : Str) (w : World) : Calls Tryd.prog 68 #[.string ⟨s.toArray⟩, .int .u8 10] w fun e w' => e = .returned (.int .i64 (Lib.indexByte s 10)) ∧ w = w' :=
  (Tryd.strings_IndexByte ⟨s.toArray⟩ 10 w).mono fun _ _ ⟨h1, h2⟩ => ⟨h1, h2.symm⟩
theorem setCell_grown (w : World) (g i : Nat) (u : Value) : w.grownBy (w.setCell ⟨g, i, none⟩ u) (some g) :=
  ⟨rfl, rfl, rfl, by simp, fun k _ hne => Below.heap_setCell w ⟨g, i, none⟩ u k (fun e => hne (by have : k = g := e; rw [this]))⟩
set_option maxRecDepth 100000 in
set_option maxHeartbeats 4000000 in
theorem lines_in (n l Bs : Nat) (s : Str) (hs : s.length ≤ 4294967296) (J Jx : List Str → World → Prop) (W : World)
    (hJ : ∀ pre A B, J pre A → A.grownBy B (some Bs) → (∃ cs, Blk A Bs 9 cs) → J pre B)
    (hY : ∀ pre x W1, J pre W1 → x.length ≤ s.length → (∃ r, linesOf s = pre ++ x :: r) → YieldAt Fence.wide (n - 1) Tryd.prog l #[strV x] W1 fun e W' =>
      (e = .returned (.bool true) ∧ J (pre ++ [x]) W' ∧ KeepStr Bs W1 W') ∨ (e = .returned (.bool false) ∧ Jx (pre ++ [x]) W'))
    (hB : Blk W Bs 9 [strV s]) (h0 : J [] W) :
    CallsIn Fence.wide n Tryd.prog 70 #[.func (.yield l) #[] #[], .pointer (some ⟨Bs, 0, none⟩)] W fun e W' => (∃ v, e = .returned v) ∧ (J (linesOf s) W' ∨ ∃ pre, Jx pre W') := by
  refine callsIn_of_wp Tryd.func70 rfl trivial ?_ rfl
  simp only [Tryd.ntmps70, List.size_toArray, List.length_cons, List.length_nil, Nat.reduceAdd, Nat.reduceSub, Array.replicate_succ, Array.replicate_zero, List.push_toArray, List.append_toArray, List.nil_append, List.cons_append]
  gi_wp2
  gi_loopw [] (fun wr => ∃ pre r, r.length ≤ s.length ∧ Hid (linesOf s = pre ++ linesOf r) ∧ Blk wr Bs 9 [strV r] ∧ J pre wr) (fun wr => restLen Bs wr)
  case atStart => exact ⟨[], s, Nat.le_refl _, Lib.hid rfl, hB, h0⟩
  case round =>
    obtain ⟨pre, r, hrl, hln, hBr, hJr⟩ := hrel
    have hsz : (⟨r.toArray⟩ : ByteArray).size = r.length := strLn r
    have hc0 : wr.cell? ⟨Bs, 0, none⟩ = some (.string ⟨r.toArray⟩) := by rw [hBr.cell]; rfl
    have hz0 := hBr.frozen 0
    have hrest := restLen_eq hBr
    by_cases hr : r.length = 0
    · have hr0 : r = [] := List.eq_nil_of_length_eq_zero hr
      have hend : Hid (J (linesOf s) wr) := Lib.hid (by rw [hln.out, hr0]; simpa [linesOf] using hJr)
      have d1 : decide (0 < (r.length : Int)) = false := decide_eq_false (by omega)
      gi_wp2
      go_end0
      exact ⟨⟨_, rfl⟩, .inl hend.out⟩
    · have d1 : decide (0 < (r.length : Int)) = true := decide_eq_true (by omega)
      have hix := Lib.hid (ixb10 r)
      have hne : r ≠ [] := fun e => hr (by rw [e]; rfl)
      rcases lines_step r hne with ⟨e, hl1⟩ | ⟨i, e, hi, hl1⟩
      · rw [e] at hix
        have hB2 : Blk (wr.setCell ⟨Bs, 0, none⟩ (.string ⟨#[]⟩)) Bs 9 [strV []] := hBr.set_ 0 _
        have hg2 : wr.grownBy (wr.setCell ⟨Bs, 0, none⟩ (.string ⟨#[]⟩)) (some Bs) := setCell_grown wr Bs 0 _
        have hJ2 := hJ _ _ _ hJr hg2 ⟨_, hBr⟩
        obtain ⟨fn, tmps, assign, body, hy, hR⟩ := hY pre r _ hJ2 hrl ⟨[], by rw [hln.out, hl1]⟩
        have hlast : Hid (linesOf s = pre ++ [r]) := Lib.hid (by rw [hln.out, hl1])
        clear hln hl1
        unfold strV at hy
        gi_wp2
        refine ⟨trivial, fun h => (by cases h), (callsIn_wide.2 (hix.out _)).mono ?_⟩
        rintro e w' ⟨rfl, rfl⟩
        gi_wp2
        refine ⟨fun h => (by cases h), hR.mono ?_⟩
        rintro e W3 (⟨rfl, hJ3, hk3⟩ | ⟨rfl, hJx3⟩)
        · have hB3 := hk3 _ hB2
          gi_wp2
          go_roundw
          case rel => exact ⟨pre ++ [r], [], by simp, Lib.hid (by rw [hlast.out]; simp [linesOf]), hB3, hJ3⟩
          case measure => rw [restLen_eq hB3, hrest]; simp; omega
        · gi_wp2
          refine bodyPost_ret (results_none rfl _ _ _) rfl ?_
          exact ⟨⟨_, rfl⟩, .inr ⟨_, hJx3⟩⟩
      · rw [e] at hix
        have hB2 : ∀ nq, Blk ((wr.drewN nq).setCell ⟨Bs, 0, none⟩ (.string ⟨(r.drop (i + 1)).toArray⟩)) Bs 9 [strV (r.drop (i + 1))] := fun nq => (hBr.drewN nq).set_ 0 _
        have hg2 : ∀ nq, wr.grownBy ((wr.drewN nq).setCell ⟨Bs, 0, none⟩ (.string ⟨(r.drop (i + 1)).toArray⟩)) (some Bs) := fun nq => ⟨rfl, rfl, rfl, by simp, fun k _ hne => Below.heap_setCell (wr.drewN nq) ⟨Bs, 0, none⟩ _ k (fun e => hne (by have : k = Bs := e; rw [this]))⟩
        have hYY : ∀ nq, YieldAt Fence.wide (n - 1) Tryd.prog l #[strV (r.take (i + 1))] ((wr.drewN nq).setCell ⟨Bs, 0, none⟩ (.string ⟨(r.drop (i + 1)).toArray⟩)) fun e W' =>
            (e = .returned (.bool true) ∧ J (pre ++ [r.take (i + 1)]) W' ∧ KeepStr Bs ((wr.drewN nq).setCell ⟨Bs, 0, none⟩ (.string ⟨(r.drop (i + 1)).toArray⟩)) W') ∨ (e = .returned (.bool false) ∧ Jx (pre ++ [r.take (i + 1)]) W') := fun nq =>
          hY pre (r.take (i + 1)) _ (hJ _ _ _ hJr (hg2 nq) ⟨_, hBr⟩) (by rw [List.length_take]; omega) ⟨linesOf (r.drop (i + 1)), by rw [hln.out, hl1]⟩
        have hnext : Hid (linesOf s = (pre ++ [r.take (i + 1)]) ++ linesOf (r.drop (i + 1))) := Lib.hid (by rw [hln.out, hl1, List.append_assoc]; rfl)
        have hs1 := fun W => run_str_to W r (i + 1) (by omega)
        have hs2 := fun W => run_str_from W r (i + 1) (by omega)
        rw [show ((i + 1 : Nat) : Int) = (i : Int) + 1 from rfl] at hs1 hs2
        have hdl : (r.drop (i + 1)).length < r.length := by rw [List.length_drop]; omega
        have d2 : decide (0 ≤ (i : Int)) = true := decide_eq_true (by omega)
        have i1 : (0 : Int) ≤ (i : Int) := by omega
        obtain ⟨x, hx⟩ : ∃ x, x = r.take (i + 1) := ⟨_, rfl⟩
        obtain ⟨y, hy⟩ : ∃ y, y = r.drop (i + 1) := ⟨_, rfl⟩
        rw [← hx] at hYY hnext hs1
        rw [← hy] at hYY hB2 hg2 hnext hs2 hdl
        clear hx hy hl1 hln
        replace hB2 := Lib.hid hB2
        replace hYY := Lib.hid hYY
        clear hg2
        gi_wp2
        refine ⟨trivial, fun h => (by cases h), (callsIn_wide.2 (hix.out _)).mono ?_⟩
        rintro e w' ⟨rfl, rfl⟩
        gi_wp2
        refine wpIn_wide.2 ?_
        refine quiet_tail 9 (by kernel_rfl) (by kernel_rfl) ?_
        simp only [List.take_succ_cons, List.take_zero, List.drop_succ_cons, List.drop_zero]
        repeat (first
          | (refine wpQuiet_run (Op.slice 9 (.tmp 12) none (some (.tmp 14)) none) rfl rfl (.string ⟨x.toArray⟩) (fun w _ => ?_) ?_
             · exact (congrArg (fun r => Result.andThen r _) (hs1 w))
             go_frame)
          | (refine wpQuiet_run (Op.slice 9 (.tmp 16) (some (.tmp 18)) none none) rfl rfl (.string ⟨y.toArray⟩) (fun w _ => ?_) ?_
             · exact (congrArg (fun r => Result.andThen r _) (hs2 w))
             go_frame)
          | go_big_quiet_step (fail))
        refine wpQuiet_nil ?_
        rintro _ ⟨nq, rfl⟩
        obtain ⟨fn, tmps, assign, body, hy, hR⟩ := hYY.out nq
        have hB3 := hB2.out nq
        have hcd : (wr.drewN nq).cell? ⟨Bs, 0, none⟩ = some (.string ⟨r.toArray⟩) := hc0
        have hzd : (wr.drewN nq).frozen? ⟨Bs, 0, none⟩ = false := hz0
        unfold strV at hy
        clear hYY hB2 hc0 hz0 hBr hJr hs1 hs2
        generalize wr.drewN nq = w3 at hy hR hB3 hcd hzd ⊢
        go_wp2
        gi_wp2
        refine ⟨fun h => (by cases h), hR.mono ?_⟩
        rintro e W3 (⟨rfl, hJ3, hk3⟩ | ⟨rfl, hJx3⟩)
        · have hB4 := hk3 _ hB3
          gi_wp2
          go_roundw
          case rel => exact ⟨pre ++ [x], y, by omega, hnext, hB4, hJ3⟩
          case measure => rw [restLen_eq hB4, hrest]; exact hdl
        · gi_wp2
          refine bodyPost_ret (results_none rfl _ _ _) rfl ?_
          exact ⟨⟨_, rfl⟩, .inr ⟨_, hJx3⟩⟩
end Go.Proofs.YtlenmkemjaaaoaaDoor
end

section
/- The statement 'for line := range strings.Lines(s)': a law of its own; and plain regions inside a round. -/
namespace Go.Proofs.YtlenmkemjaaaoaaDoor
open Go.RowKit Go.Shelf

/-! A region's plain walk serves in a round of the wide fence. -/
def noDefer (o : Oper) : Bool := match o.op with | .defer _ => false | _ => true
theorem uponIn_wide {n : Nat} {P : Program} {o : Oper} {a : Act} {K : Act → World → Prop} {Q : Exit → Act → World → Prop} (l : Nat) : ∀ r, o.upon P a K Q r → o.uponIn (Fence.wide.inRound l) n P a K Q r := by
  intro r h
  have hd : (Fence.wide.inRound l).depth.isSome = true → 1 ≤ n := fun h => by cases h
  match r with
  | .ok (.value v) w' => exact h
  | .ok .skip w' => exact h
  | .ok (.defer d) w' => exact h
  | .ok (.enter f args) w' => exact ⟨hd, callsIn_wide.2 h⟩
  | .ok (.row row args) w' =>
    refine ⟨hd, fun c cs _ => ?_⟩
    obtain ⟨v, w2, h1, h2⟩ := h c cs
    exact ⟨v, w2, h1, stepsIn_wide.2 h2⟩
  | .ok (.round ..) w' => exact h.elim
  | .halt (.panic v) w' => exact h
theorem wpListIn_wide {n l : Nat} {P : Program} {ops : Array Oper} {Q : Exit → Act → World → Prop} (hQ : ¬ LetsOut Q) : ∀ (L : List Oper) (a : Act) (w : World), L.all noDefer = true → wpList P ops Q L a w → wpListIn (Fence.wide.inRound l) n P ops Q L a w
  | [], a, w, _, h => h
  | o :: rest, a, w, hL, h => by
    simp only [List.all_cons, Bool.and_eq_true] at hL
    unfold wpList at h
    unfold wpListIn
    split at h
    · rename_i hw
      rw [if_pos hw]
      rcases h with h | ⟨_, h⟩
      · refine ⟨fun _ _ => trivial, ?_⟩
        rw [Oper.semAt_plain _ _ _ (fun c hc => by have := hL.1; simp [noDefer, hc] at this)]
        refine uponIn_wide l _ ?_
        have hrest := fun a w => wpListIn_wide (n := n) (l := l) (P := P) (ops := ops) hQ rest a w hL.2
        have hm : ∀ r, o.upon P a (wpList P ops Q rest) Q r → o.upon P a (wpListIn (Fence.wide.inRound l) n P ops Q rest) Q r := by
          intro r h
          match r with
          | .ok (.value v) w' => exact hrest _ _ h
          | .ok .skip w' => exact hrest _ _ h
          | .ok (.defer d) w' => exact hrest _ _ h
          | .ok (.enter f args) w' =>
            refine Calls.mono h fun e w2 h2 => ?_
            cases e with
            | returned v => exact hrest _ _ h2
            | panicked c => exact h2
            | outgrown => exact h2
          | .ok (.row row args) w' => exact Rows.mono h fun v w2 h2 => hrest _ _ h2
          | .ok (.round ..) w' => exact h.elim
          | .halt (.panic v) w' => exact h
        exact hm _ h
      · exact (hQ h).elim
    · rename_i hw
      rw [if_neg hw]
      exact ⟨fun _ _ => trivial, wpListIn_wide hQ rest _ _ hL.2 h⟩
theorem wpIn_region_wide {n l id : Nat} {P : Program} {L : List Oper} {Q : Exit → Act → World → Prop} {a : Act} {w : World} (hQ : ¬ LetsOut Q) (hL : L.all noDefer = true) (h : wpList P L.toArray Q L a w) :
    (Code.region id L.toArray false).wpIn (Fence.wide.inRound l) n P Q a w :=
  wpIn_region_lit (wpListIn_wide hQ L a w hL h)

/-! The statement. -/
theorem KeepStr.trans {Bs : Nat} {A B C : World} (h : KeepStr Bs A B) (k : KeepStr Bs B C) : KeepStr Bs A C := fun cs hA => k cs (h cs hA)
theorem KeepStr.put {Bs l : Nat} (W : World) (o : Obj) (h : l ≠ Bs) : KeepStr Bs W (W.putObj l o) := fun _ hB => hB.grown (grownBy_putObj' W l o) (fun e => h (by cases e; rfl))

/-- I abides what the statement's book-keeping and the iterator's own state do. -/
def Calm (B0 Bs : Nat) (I : List Str → World → Prop) : Prop := ∀ s A B row, I s A → A.grownBy B row → (∀ r, row = some r → (r = Bs ∧ ∃ cs, Blk A Bs 9 cs) ∨ (B0 ≤ r ∧ ∃ o : Obj, A.heap[r]? = some o ∧ o.isCells = false)) → I s B
theorem Calm.put {B0 Bs l : Nat} {I : List Str → World → Prop} (hI : Calm B0 Bs I) {s : List Str} {W : World} {o : Obj} (o' : Obj) (hB : B0 ≤ l) (h : I s W) (hl : W.heap[l]? = some o) (ho : o.isCells = false) : I s (W.putObj l o') :=
  hI s W _ _ h (grownBy_putObj' W l o') (fun r e => by cases e; exact .inr ⟨hB, o, hl, ho⟩)
theorem Calm.alloc {B0 Bs : Nat} {I : List Str → World → Prop} (hI : Calm B0 Bs I) {s : List Str} {W : World} (o : Obj) (h : I s W) : I s (W.alloc o) :=
  hI s W _ _ h (World.grownBy_alloc W o none) (fun r e => by cases e)

set_option maxHeartbeats 4000000 in
theorem wp_range_lines {g : Operand} {ps : Array Tmp} {assign body : Code} {Q : Exit → Act → World → Prop} {a : Act} {w : World} (Bs : Nat) (s : Str) (hs : s.length ≤ 4294967296)
    (hg : a.eval g = .func (.func 70) #[] #[.pointer (some ⟨Bs, 0, none⟩)]) (hps : ps.size = 1) (hB : Blk w Bs 9 [strV s])
    (I : List Str → World → Prop) (Ix : Code → List Str → World → Prop) (hI : Calm w.heap.size Bs I) (hIx : ∀ c, Calm w.heap.size Bs (Ix c)) (h0 : I [] w) (a₁ : Str → Act)
    (hassign : ∀ (l : Nat) (x : Str) (W : World) (K : Act → World → Prop), K (a₁ x) W →
      assign.wpIn (Fence.wide.inRound l) 0 Tryd.prog (Exit.then K (fun _ _ _ => False)) { tmps := (ps.zip #[strV x]).foldl (fun t (p, v) => t.setIfInBounds p v) a.tmps, defers := [] } W)
    (hbody : ∀ (l : Nat) (pre : List Str) (x : Str) (W : World), I pre W → x.length ≤ s.length → (∃ r, linesOf s = pre ++ x :: r) → body.wpIn (Fence.wide.inRound l) 0 Tryd.prog (ownPostK (KeepStr Bs) I Ix (pre ++ [x]) W) (a₁ x) W)
    (hdone : ∀ (D : Nat) (W : World), w.heap.size ≤ D → I (linesOf s) W → W.heap[D]? = some (.deferred (some [])) → Q .normal { a with defers := { target := .collected D, args := #[] } :: a.defers } W)
    (hstop : ∀ (D : Nat) (c : Code) (pre : List Str) (W : World), w.heap.size ≤ D → Ix c pre W → W.heap[D]? = some (.deferred (some [])) → c.wpIn Fence.wide 0 Tryd.prog Q { a with defers := { target := .collected D, args := #[] } :: a.defers } W) :
    (Code.rangeFunc g ps assign body).wp Tryd.prog Q a w := by
  refine (wpIn_wide (n := 0)).1 (wpIn_rangeFunc ?_)
  intro fn hfn
  rw [show Fence.wide.round = none from rfl]
  obtain ⟨rec, hrec⟩ : ∃ rec : LoopState → Option Code → Loop, rec = fun st pe => { state := st, pending := pe, fn, tmps := a.tmps, params := ps, assign, body, defers := w.heap.size } := ⟨_, rfl⟩
  obtain ⟨W1, hW1⟩ : ∃ W1, (w.alloc (.deferred (some []))).alloc (.loop (rec .ready none)) = W1 := ⟨_, rfl⟩
  have hBlt := hB.lt
  have hL1 : W1.heap[w.heap.size + 1]? = some (.loop (rec .ready none)) := by
    rw [← hW1]; have := World.alloc_heap_new (w.alloc (.deferred (some []))) (.loop (rec .ready none)); rwa [World.size_alloc] at this
  have hK1 : W1.heap[w.heap.size]? = some (.deferred (some [])) := by
    rw [← hW1]; exact (Below.heap_alloc _ _ _ (by simp)).trans (World.alloc_heap_new w _)
  have hI1 : I [] W1 := by rw [← hW1]; exact hI.alloc _ (hI.alloc _ h0)
  have hB1 : Blk W1 Bs 9 [strV s] := by rw [← hW1]; exact (hB.alloc _).alloc _
  refine ⟨w.heap.size + 1, [{ target := .collected w.heap.size, args := #[] }], W1, { target := .fn (.func 70) #[.pointer (some ⟨Bs, 0, none⟩)], args := #[.func (.yield (w.heap.size + 1)) #[] #[]] }, W1, 70,
    #[.func (.yield (w.heap.size + 1)) #[] #[], .pointer (some ⟨Bs, 0, none⟩)], W1, ?_, ?_, ?_, ?_, fun h => (by cases h), ?_⟩
  · rw [← hW1, hrec]; exact run_enterLoop_outer _ _ _ _ _
  · simp only [resolve, hg]
    simp [go_sem]
  · exact fun _ _ => trivial
  · simp [invoke, go_sem]
  · refine (lines_in (0 - 1) (w.heap.size + 1) Bs s hs
      (fun pre W => I pre W ∧ W.heap[w.heap.size + 1]? = some (.loop (rec .ready none)) ∧ W.heap[w.heap.size]? = some (.deferred (some [])))
      (fun pre W => ∃ c, Ix c pre W ∧ W.heap[w.heap.size + 1]? = some (.loop (rec .done (some c))) ∧ W.heap[w.heap.size]? = some (.deferred (some [])))
      W1 ?_ ?_ hB1 ⟨hI1, hL1, hK1⟩).mono ?_
    · rintro pre A B ⟨hi, hl, hk⟩ hgr hS
      have b1 := (Array.getElem?_eq_some_iff.1 hl).1
      have b2 := (Array.getElem?_eq_some_iff.1 hk).1
      refine ⟨hI _ _ _ _ hi hgr (fun r e => by cases e; exact .inl ⟨rfl, hS⟩), ?_, ?_⟩
      · exact (hgr.block _ b1 (fun e => by cases e; omega)).trans hl
      · exact (hgr.block _ b2 (fun e => by cases e; omega)).trans hk
    · -- ONE ROUND
      rintro pre x W ⟨hi, hl, hk⟩ hlen hr
      have hlt : w.heap.size + 1 < W.heap.size := (Array.getElem?_eq_some_iff.1 hl).1
      have hy := run_yield (P := Tryd.prog) (args := #[strV x]) hl (by rw [hrec]; simp [hps])
      rw [hrec] at hy
      refine ⟨fn, _, assign, body, hy, roundIn_of_wpIn hfn (hassign _ x W _ ⟨_, run_beginRound hl (by rw [hrec]), ?_⟩)⟩
      have hl2 : (W.putObj (w.heap.size + 1) (.loop { rec .ready none with state := .busy })).heap[w.heap.size + 1]? = some (.loop { rec .ready none with state := .busy }) := World.putObj_heap_same hlt
      have hk2 : (W.putObj (w.heap.size + 1) (.loop { rec .ready none with state := .busy })).heap[w.heap.size]? = some (.deferred (some [])) := (World.putObj_heap_other (by omega)).trans hk
      have hw2 : KeepStr Bs W (W.putObj (w.heap.size + 1) (.loop { rec .ready none with state := .busy })) := KeepStr.put _ _ (by omega)
      refine wpIn_mono (hbody _ pre x _ (hI.put _ (by omega) hi hl rfl) hlen hr) ?_
      have fin : ∀ (jump : Option Code) (W3 : World), KeepsOthers (W.putObj (w.heap.size + 1) (.loop { rec .ready none with state := .busy })) W3 →
          (Instr.endRound (w.heap.size + 1) jump).run Tryd.prog W3 = .ok (.bool jump.isNone) (W3.putObj (w.heap.size + 1) (.loop (rec (if jump.isNone then .ready else .done) jump))) ∧
          W3.heap[w.heap.size + 1]? = some (.loop { rec .ready none with state := .busy }) ∧
          (W3.putObj (w.heap.size + 1) (.loop (rec (if jump.isNone then .ready else .done) jump))).heap[w.heap.size + 1]? = some (.loop (rec (if jump.isNone then .ready else .done) jump)) ∧
          (W3.putObj (w.heap.size + 1) (.loop (rec (if jump.isNone then .ready else .done) jump))).heap[w.heap.size]? = some (.deferred (some [])) := fun jump W3 hk3 => by
        have hl3 := hk3.same _ _ hl2 rfl
        have := run_endRound (P := Tryd.prog) jump hl3
        rw [hrec] at this ⊢
        exact ⟨this, by rw [hrec] at hl3; exact hl3, World.putObj_heap_same (Array.getElem?_eq_some_iff.1 hl3).1, (World.putObj_heap_other (by omega)).trans (hk3.same _ _ hk2 rfl)⟩
      rintro e a3 W3 hp
      cases e with
      | normal =>
        obtain ⟨hk3, hkp3, hi3⟩ := hp
        obtain ⟨hr, hl3, hl4, hk4⟩ := fin none W3 hk3
        exact ⟨_, _, hr, .inl ⟨rfl, ⟨hI.put _ (by omega) hi3 hl3 rfl, hl4, hk4⟩, (hw2.trans hkp3).trans (KeepStr.put _ _ (by omega))⟩⟩
      | ret =>
        obtain ⟨hk3, hi3⟩ := hp
        obtain ⟨hr, hl3, hl4, hk4⟩ := fin (some .ret) W3 hk3
        exact ⟨_, _, hr, .inr ⟨rfl, .ret, (hIx _).put _ (by omega) hi3 hl3 rfl, hl4, hk4⟩⟩
      | exit id =>
        obtain ⟨hk3, hi3⟩ := hp
        obtain ⟨hr, hl3, hl4, hk4⟩ := fin (some (.exit id)) W3 hk3
        exact ⟨_, _, hr, .inr ⟨rfl, .exit id, (hIx _).put _ (by omega) hi3 hl3 rfl, hl4, hk4⟩⟩
      | goto t =>
        obtain ⟨hk3, hi3⟩ := hp
        obtain ⟨hr, hl3, hl4, hk4⟩ := fin (some (.goto t)) W3 hk3
        exact ⟨_, _, hr, .inr ⟨rfl, .goto t, (hIx _).put _ (by omega) hi3 hl3 rfl, hl4, hk4⟩⟩
      | panic ch => exact hp.elim
      | outgrown => exact hp.elim
    · rintro e W2 ⟨⟨v, rfl⟩, (⟨hi, hl, hk⟩ | ⟨pre, c, hi, hl, hk⟩)⟩
      · exact ⟨none, _, by have := run_endLoop (P := Tryd.prog) hl (by rw [hrec]; simp); rw [hrec] at this; exact this, hdone _ _ (Nat.le_refl _) (hI.put _ (by omega) hi hl rfl) ((World.putObj_heap_other (by omega)).trans hk)⟩
      · exact ⟨some c, _, by have := run_endLoop (P := Tryd.prog) hl (by rw [hrec]; simp); rw [hrec] at this; exact this, hstop _ c pre _ (Nat.le_refl _) ((hIx c).put _ (by omega) hi hl rfl) ((World.putObj_heap_other (by omega)).trans hk)⟩
/-! A function that holds such a statement. -/
theorem calls_of_wp_marks {P : Program} {f : FuncId} {fn : Func} {c : Code} {args : Array Value} {w : World} {R : Ending → World → Prop}
    (hf : P.funcs[f]? = some fn) (hb : fn.body = some c)
    (h : c.wp P (bodyPostM Fence.wide 0 P fn R) { tmps := args ++ Array.replicate (fn.ntmps - args.size) undef, defers := [] } w) : Calls P f args w R :=
  (callsIn_wide (n := 0)).1 (callsIn_of_wp_marks hf hb trivial (wpIn_wide.2 h))
theorem leaves_mark {P : Program} {fn : Func} {tmps : Array Value} {R : Ending → World → Prop} {D : Nat} {W : World} (hD : W.heap[D]? = some (.deferred (some []))) (v : Value)
    (hr : (results fn tmps).run P (W.putObj D (.deferred none)) = .ok v (W.putObj D (.deferred none))) (hR : R (.returned v) (W.putObj D (.deferred none))) :
    LeavesInM Fence.wide 0 P fn tmps R [{ target := .collected D, args := #[] }] .returning W := by
  refine ⟨by simp, .inl ⟨_, _, rfl, run_takeDeferred hD, ?_⟩⟩
  exact ⟨v, hr, hR⟩
end Go.Proofs.YtlenmkemjaaaoaaDoor
end
