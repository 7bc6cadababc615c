/- Two disks beside each other; slices of numbers beside a disk. -/
import Derived.Test.YtbfniokghocfiaaDkSy
namespace Go.Proofs.Ytbfniokghocfiaa
open Go.RowKit Go.Maps Go.Sort

/-- Every slice of numbers stays. -/
def KeepI (w w' : World) : Prop := ∀ base v n xs, w.ownsRow base 3 1 v n xs → w'.ownsRow base 3 1 v n xs
theorem row_tag {w : World} {base : Nat} {e : TypeId} {s : Nat} {v : Value} {n : Nat} {xs : List Value} (h : w.ownsRow base e s v n xs) {b : Nat} (hb : v.ownBlock = some b) : ∃ cs, Blk w b e cs := by
  rcases h.2 with ⟨rfl, _⟩ | ⟨g', cap, cur, rfl, _, hg', _⟩
  · cases hb
  · have : g' = b := by simpa [Value.ownBlock] using hb
    subst this
    exact ⟨cur.toList, by unfold Blk; simpa using hg'⟩
theorem KeepI.turned {w w' : World} {L : List Nat} {g : Nat} {S S' : DS} (hd : DiskIs w L g S) (hT : Turned w L g S' w') : KeepI w w' := fun base v n xs hf => own_touch hf hT.1 (fun b hb => by
  obtain ⟨cs, hB⟩ := row_tag hf hb
  exact hd.tag hB (by decide) (by decide))
theorem KeepI.below {w w' : World} (h : Below w.heap.size w w') : KeepI w w' := fun _ _ _ _ hf => own_touch (L := []) hf (Touch.ofBelow h) (by simp)
/-- A slice of numbers has grown. -/
theorem grown_ints {w w' : World} {base : Nat} {v : Value} {n : Nat} {xs : List Value} (h : w.ownsRow base 3 1 v n xs) (hg : w.grownBy w' v.ownBlock) :
    KeepF w w' ∧ ∀ W g S, PlayRel W g S w → W.heap.size ≤ base → PlayRel W g S w' := by
  have ht : Touch v.ownBlock.toList w w' := Touch.grown hg (fun b hb => by simp [hb])
  refine ⟨fun b u l hf => own_touch hf ht (fun q hq hm => ?_), fun W g S hP hbs => ?_⟩
  · obtain ⟨cs, hB⟩ := row_tag hf hq
    obtain ⟨cs', hB'⟩ := row_tag h (b := q) (by simpa using hm)
    exact hB.ne_ hB' (by decide) rfl
  · obtain ⟨L, hd, hL, hb⟩ := hP
    refine ⟨L, hd.touch ht (fun i hi hm => ?_) (fun i hi cs hc => ?_), hL, hb.trans (ht.below hb.size (fun i hi => ?_))⟩
    · obtain ⟨cs', hB'⟩ := row_tag h (b := i) (by simpa using hm)
      exact hd.tag hB' (by decide) (by decide) hi
    · obtain ⟨cs', hB'⟩ := row_tag h (b := i) (by simpa using hi)
      exact hc.ne_ hB' (by decide) rfl
    · exact Nat.le_trans hbs (h.lt i (by simpa using hi)).1
theorem pr_call' {w wr : World} {g : Nat} {S : DS} (x : ActD) (h : PlayRel w g S wr) (hA : Asked S) (hx : x.Ok) :
    Calls Try.prog 15 #[.pointer (some ⟨g, 0, none⟩), .agg x.cells.toArray] wr fun e w' => e = .returned (.int .i64 (x.call.errno S)) ∧ PlayRel w g (x.call.turn S) w' ∧ KeepF wr w' ∧ KeepI wr w' ∧ wr.heap.size ≤ w'.heap.size := by
  obtain ⟨L, ⟨bn, bs, v, hd, rfl⟩, hL, hB⟩ := h
  exact (call_any g bn bs v S x wr hd hA hx).mono fun e w' ⟨he, hT⟩ => ⟨he, PlayRel.turned hL hB hT, KeepF.turned ⟨_, _, _, hd, rfl⟩ hT, KeepI.turned ⟨_, _, _, hd, rfl⟩ hT, hT.1.size⟩
/-- Two disks, each with blocks of its own. -/
def Two (w : World) (ga : Nat) (Sa : DS) (gb : Nat) (Sb : DS) (wr : World) : Prop :=
  ∃ La Lb, DiskIs wr La ga Sa ∧ DiskIs wr Lb gb Sb ∧ (∀ i ∈ La, i ∉ Lb) ∧ (∀ i ∈ La, w.heap.size ≤ i) ∧ (∀ i ∈ Lb, w.heap.size ≤ i) ∧ Below w.heap.size w wr
section
variable {w wr w' : World} {ga gb : Nat} {Sa Sb S' : DS}
theorem Two.swap (h : Two w ga Sa gb Sb wr) : Two w gb Sb ga Sa wr := by
  obtain ⟨La, Lb, ha, hb, hd, h1, h2, hB⟩ := h
  exact ⟨Lb, La, hb, ha, fun i hi hm => hd i hm hi, h2, h1, hB⟩
theorem Two.left (h : Two w ga Sa gb Sb wr) : PlayRel w ga Sa wr := by
  obtain ⟨La, Lb, ha, hb, hd, h1, h2, hB⟩ := h
  exact ⟨La, ha, h1, hB⟩
theorem Two.right (h : Two w ga Sa gb Sb wr) : PlayRel w gb Sb wr := h.swap.left
theorem Two.base (h : Two w ga Sa gb Sb wr) : Below w.heap.size w wr := h.left.base
theorem Two.below (h : Two w ga Sa gb Sb wr) (hb : Below wr.heap.size wr w') : Two w ga Sa gb Sb w' := by
  obtain ⟨La, Lb, ha, hb', hd, h1, h2, hB⟩ := h
  exact ⟨La, Lb, ha.below hb, hb'.below hb, hd, h1, h2, hB.trans (hb.mono hB.size)⟩
/-- The second is made beside the first. -/
theorem Two.mk {L : List Nat} (h : PlayRel w ga Sa wr) (hb : Below wr.heap.size wr w') (hd : DiskIs w' L gb Sb) (hL : ∀ i ∈ L, wr.heap.size ≤ i) : Two w ga Sa gb Sb w' := by
  obtain ⟨La, ha, h1, hB⟩ := h
  refine ⟨La, L, ha.below hb, hd, fun i hi hm => ?_, h1, fun i hi => Nat.le_trans hB.size (hL i hi), hB.trans (hb.mono hB.size)⟩
  have := ha.lt i hi
  have := hL i hm
  omega
/-- A call of the first. -/
theorem Two.do (h : Two w ga Sa gb Sb wr) {f : FuncId} {args : Array Value} {e0 : Ending} (hc : ∀ La, DiskIs wr La ga Sa → (∀ i ∈ La, w.heap.size ≤ i) → Calls Try.prog f args wr fun e w' => e = e0 ∧ Turned wr La ga S' w') :
    Calls Try.prog f args wr fun e w' => e = e0 ∧ Two w ga S' gb Sb w' ∧ KeepF wr w' ∧ KeepI wr w' := by
  obtain ⟨La, Lb, ha, hb, hd, h1, h2, hB⟩ := h
  refine (hc La ha h1).mono fun e w' ⟨he, hT⟩ => ⟨he, ?_, KeepF.turned ha hT, KeepI.turned ha hT⟩
  obtain ⟨ht, L', hd', hL'⟩ := hT
  refine ⟨L', Lb, hd', hb.touch ht (fun i hi hm => hd i hm hi) ha.noBox, fun i hi hm => ?_, fun i hi => ?_, h2, hB.trans (ht.below hB.size h1)⟩
  · rcases hL' i hi with h3 | h3
    · exact hd i h3 hm
    · have := hb.lt i hm; omega
  · rcases hL' i hi with h3 | h3
    · exact h1 i h3
    · exact Nat.le_trans hB.size h3
theorem tw_call (x : ActD) (h : Two w ga Sa gb Sb wr) (hA : Asked Sa) (hx : x.Ok) :
    Calls Try.prog 15 #[.pointer (some ⟨ga, 0, none⟩), .agg x.cells.toArray] wr fun e w' => e = .returned (.int .i64 (x.call.errno Sa)) ∧ Two w ga (x.call.turn Sa) gb Sb w' ∧ KeepF wr w' ∧ KeepI wr w' :=
  h.do (fun La ha _ => by
    obtain ⟨bn, bs, v, hd, rfl⟩ := ha
    exact call_any ga bn bs v Sa x wr hd hA hx)
theorem tw_sync (h : Two w ga Sa gb Sb wr) (hF : Sa.Fit) :
    Calls Try.prog 11 #[.pointer (some ⟨ga, 0, none⟩)] wr fun e w' => e = .returned (.int .i64 (Call.sync.errno Sa)) ∧ Two w ga (Call.sync.turn Sa) gb Sb w' ∧ KeepF wr w' ∧ KeepI wr w' :=
  h.do (fun La ha _ => by
    obtain ⟨bn, bs, v, hd, rfl⟩ := ha
    exact sync_any ga bn bs v Sa wr hd hF)
theorem tw_crash (l : List Int) (A : Option Addr) (c : Nat) (h : Two w ga Sa gb Sb wr) (hF : Sa.Fit) (hq : fLen Sa.sure + Sa.pend.length < 8796093022208) (hl : ∀ L, (∀ i ∈ L, w.heap.size ≤ i) → DiskIs wr L ga Sa → Nums wr (fun b => b ∉ L ∧ b < wr.heap.size) A l) (hlb : ∀ x ∈ l, x ≤ 9223372036854775807) (hll : l.length ≤ 140737488355328) :
    Calls Try.prog 12 #[.pointer (some ⟨ga, 0, none⟩), .slice A l.length c] wr fun e w' => e = .returned (.tuple #[]) ∧ Two w ga (Sa.crash l) gb Sb w' ∧ KeepF wr w' ∧ KeepI wr w' :=
  h.do (fun La ha hL => by
    have hn := hl La hL ha
    obtain ⟨bn, bs, v, hd, rfl⟩ := ha
    exact crash_any ga bn bs v Sa l A c wr hd hF hq hn hlb hll)
theorem tw_fuse (n : Int) (h : Two w ga Sa gb Sb wr) :
    Calls Try.prog 17 #[.pointer (some ⟨ga, 0, none⟩), .int .i64 n] wr fun e w' => e = .returned (.tuple #[]) ∧ Two w ga { Sa with fuse := max n (-1) } gb Sb w' ∧ KeepF wr w' ∧ KeepI wr w' :=
  h.do (fun La ha _ => by
    obtain ⟨bn, bs, v, hd, rfl⟩ := ha
    refine (fuse_any ga bn bs v Sa n wr hd).mono fun e w' ⟨he, hd', ht⟩ => ⟨he, ht.mono (fun i hi => .inl ?_), foot ga bn bs v, ⟨bn, bs, v, hd', rfl⟩, fun i hi => .inl hi⟩
    have : i = ga := by simpa using hi
    rw [this]; simp [foot])
theorem nums_row {L : List Nat} {base n c : Nat} {A : Option Addr} {l : List Int} (h : wr.ownsRow base 3 1 (.slice A n c) n (l.map intV)) (hd : DiskIs wr L ga Sa) : Nums wr (fun b => b ∉ L ∧ b < wr.heap.size) A l := fun hn => by
  obtain ⟨ad, e, _, hc⟩ := Rd.of_own h hn
  have hob : (Value.slice A n c).ownBlock = some ad.block := by rw [e]; rfl
  obtain ⟨cs, hB⟩ := row_tag h hob
  exact ⟨ad, e, ⟨hd.tag hB (by decide) (by decide), hB.lt⟩, hc⟩
theorem nums_nil {ok : Nat → Prop} : Nums wr ok none [] := fun hn => absurd hn (by simp)
end
/-- A crash that loses all. -/
theorem crash_all_now (S : DS) : (S.crash []).now = S.sure := crashTo_nil _ _
theorem crash_all_sure (S : DS) : (S.crash []).sure = S.sure := crashTo_nil _ _
end Go.Proofs.Ytbfniokghocfiaa
