/- The walk of does: a call is done, and is pending from then on. -/
import Derived.Test.YtlenmkemjaaaoaaDoorDkA
import Derived.Shelf.Abstract
namespace Go.Proofs.YtlenmkemjaaaoaaDoor
open Go.RowKit Go.Maps Go.Sort

theorem callI : InfoOf Tryd.prog 120 (.agg #[.nilFunc]) 1 8 := ⟨callInfo, by simp [Value.cells], by omega⟩
/-- What does leaves. -/
def DoesTo (w : World) (g bn bs : Nat) (v : Value) (S : DS) (w' : World) : Prop := ∃ v', DiskAt w' g bn bs v' S ∧ Touch (foot g bn bs v) w w' ∧ (v'.ownBlock = v.ownBlock ∨ ∀ b, v'.ownBlock = some b → w.heap.size ≤ b)
theorem DoesTo.turned {w w' : World} {g bn bs : Nat} {v : Value} {S : DS} (h : DoesTo w g bn bs v S w') : Turned w (foot g bn bs v) g S w' := by
  obtain ⟨v', hd, ht, hv⟩ := h
  refine ⟨ht, _, ⟨bn, bs, v', hd, rfl⟩, fun i hi => ?_⟩
  rcases DiskAt.mem_foot hi with rfl | rfl | rfl | e
  · simp [foot]
  · simp [foot]
  · simp [foot]
  · rcases hv with hv | hv
    · rw [hv] at e; left; simp [foot, e]
    · exact .inr (hv i e)
/-- A disk whose map of now has been written by a pending call. -/
theorem DiskAt.wrote {w w' : World} {g bn bs : Nat} {v : Value} {S : DS} {D : DM} (h : DiskAt w g bn bs v S) (ht : Touch [bn] w w') (hm : MapIs w' bn D) : DiskAt w' g bn bs v { S with now := D } := by
  have hg := h.gne
  have hnb : ∀ i cs t, Blk w i t cs → i ≠ bn := fun i cs t hc e => by
    obtain ⟨es, c, he⟩ := h.now.at
    subst e; unfold Blk at hc; rw [he] at hc; cases hc
  obtain ⟨vs, ho, hop⟩ := h.row
  refine ⟨h.blk.touch ht (by simpa using hnb g _ _ h.blk), hm, h.sure.touch ht (by simpa using h.ne.symm), h.ne, vs, own_touch ho ht (fun b hb => ?_), hop.touch ht (fun i hi cs hc => hnb i cs _ hc (by simpa using hi))⟩
  rcases ho.2 with ⟨rfl, _⟩ | ⟨g', cap, cur, rfl, _, hg', _⟩
  · cases hb
  · have : g' = b := by simpa [Value.ownBlock] using hb
    subst this
    have := hnb g' cur.toList _ (show Blk w g' _ _ from by unfold Blk; simpa using hg')
    simpa using this
/-- .. and whose row of pending calls has grown. -/
theorem DiskAt.rowed {w w' : World} {g bn bs : Nat} {v v' : Value} {S : DS} {o : DOp} {vs : List Value} (h : DiskAt w g bn bs v S) (hg : w.grownBy w' v.ownBlock) (ho : w'.ownsRow 0 120 1 v' (S.pend.length + 1) vs) (hop : OpsAre w (S.pend ++ [o]) vs)
    {w2 : World} (h2 : w2 = w'.setCell ⟨g, 2, none⟩ v') : DiskAt w2 g bn bs v' { S with pend := S.pend ++ [o] } := by
  subst h2
  have ht : Touch (v.ownBlock.toList) w w' := Touch.grown hg (fun b hb => by simp [hb])
  have hgne := h.gne
  have hnb : NoBox w v.ownBlock.toList := fun i hi => h.noBox i (by simp [foot]; right; right; right; simpa using hi)
  obtain ⟨vs0, hr, _⟩ := h.row
  have hmap : ∀ b D, MapIs w b D → b ∉ v.ownBlock.toList := fun b D hm hb => by
    rcases hr.2 with ⟨rfl, _⟩ | ⟨g', cap, cur, rfl, _, hg', _⟩
    · cases hb
    · have : g' = b := by simpa [Value.ownBlock, eq_comm] using hb
      subst this
      obtain ⟨es, c, he⟩ := hm.at
      rw [he] at hg'; cases hg'
  have hb1 : Blk w' g 75 (dCells bn bs v S) := h.blk.touch ht (fun hb => hgne g (by simp only [List.mem_cons]; right; right; exact hb) rfl)
  have n1 := h.now.touch ht (hmap _ _ h.now)
  have s1 := h.sure.touch ht (hmap _ _ h.sure)
  have ht2 : Touch [g] w' (w'.setCell ⟨g, 2, none⟩ v') := Touch.setCell _ (by simp)
  refine ⟨hb1.set_ 2 v', n1.touch ht2 (by simpa using hgne bn (by simp)), s1.touch ht2 (by simpa using hgne bs (by simp)), h.ne, vs, ?_, (hop.touch ht hnb).touch ht2 (fun i hi cs hc => by
      have : i = g := by simpa using hi
      subst this
      exact hb1.ne_ hc (by decide) rfl)⟩
  have hv' : w'.ownsRow 0 120 1 v' (S.pend ++ [o]).length vs := by simpa using ho
  refine own_touch hv' ht2 (fun b hb e => ?_)
  have : b = g := by simpa using e
  subst this
  rcases ho.2 with ⟨rfl, _⟩ | ⟨g', cap, cur, rfl, _, hg', _⟩
  · cases hb
  · have : g' = b := by simpa [Value.ownBlock] using hb
    subst this
    unfold Blk at hb1
    rw [hg'] at hb1
    injection hb1 with hb1
    injection hb1 with _ ht
    exact absurd ht (by decide)

/-- A closure, called on a map. -/
theorem cl_any (w : World) (b : Nat) (D : DM) (o : DOp) (cl : Value) (k : Int) (hk : k ≤ 9223372036854775807) (h : MapIs w b D) (hl : fLen D < 8796093022208) (hcl : OpIs w o cl) (hok : o.ok) :
    ∃ fn cap, cl = .func (.func fn) #[] cap ∧ Enters Tryd.prog fn ∧ Calls Tryd.prog fn (#[.map (some b), .int .i64 k] ++ cap) w fun e w' => e = .returned (.tuple #[]) ∧ MapIs w' b (o.act k D) ∧ Touch [b] w w' := by
  cases o with
  | write s t =>
    obtain ⟨a, a', rfl, h1, h2⟩ := hcl
    exact ⟨_, _, rfl, enters_of Tryd.func86 (by kernel_rfl) rfl, cl_write w b a a' D s t k hk h hl h1 h2 hok.1 hok.2⟩
  | remove s =>
    obtain ⟨a, rfl, h1⟩ := hcl
    exact ⟨_, _, rfl, enters_of Tryd.func85 (by kernel_rfl) rfl, cl_remove w b a D s k h h1 hok⟩
  | rename s t =>
    obtain ⟨a, a', rfl, h1, h2⟩ := hcl
    exact ⟨_, _, rfl, enters_of Tryd.func87 (by kernel_rfl) rfl, cl_rename w b a a' D s t k h hl h1 h2 hok.1 hok.2⟩
set_option maxRecDepth 100000 in
set_option maxHeartbeats 1000000 in
theorem does_any (g bn bs : Nat) (v : Value) (S : DS) (o : DOp) (cl : Value) (w : World) (h : DiskAt w g bn bs v S) (hcl : OpIs w o cl) (hok : o.ok) (hl : fLen S.now < 8796093022208) (hp : S.pend.length < 4398046511104) :
    Calls Tryd.prog 84 #[.pointer (some ⟨g, 0, none⟩), cl] w fun e w' => e = .returned (.int .i64 0) ∧ DoesTo w g bn bs v (S.does o) w' := by
  have c0 : w.cell? ⟨g, 0, none⟩ = some (.map (some bn)) := by rw [h.blk.cell]; rfl
  obtain ⟨fn, cap, rfl, hen, hc⟩ := cl_any w bn S.now o cl 1 (by omega) h.now hl hcl hok
  replace hcl := Lib.hid hcl
  replace hen := Lib.hid hen
  replace hc := Lib.hid hc
  replace h := Lib.hid h
  clear hl
  go_enter Tryd.func84, Tryd.ntmps84
  go_wp2_with fail
  rw [hen.out, Oper.upon_enter]
  refine hc.out.mono ?_
  rintro e w1 ⟨rfl, hm1, ht1⟩
  have hd1 := h.out.wrote ht1 hm1
  have hnb1 : NoBox w [bn] := fun i hi => h.out.noBox i (by simp [foot]; right; left; simpa using hi)
  have hop1 := Lib.hid (hcl.out.touch ht1 hnb1)
  clear hnb1
  obtain ⟨vs, hrow, hops⟩ := hd1.row
  have c2 : w1.cell? ⟨g, 2, none⟩ = some v := by rw [hd1.blk.cell]; rfl
  have z2 := hd1.blk.frozen 2
  have hlt := hd1.blk.lt
  replace hd1 := Lib.hid hd1
  replace ht1 := Lib.hid ht1
  replace hrow := Lib.hid hrow
  replace hops := Lib.hid hops
  clear hm1 c0
  have hgn : Hid (some g ≠ v.ownBlock) := Lib.hid (fun e => hd1.out.gne g (by simp [← e]) rfl)
  have hone : Hid (∀ u ∈ [Value.func (.func fn) #[] cap], u.oneCell' = true) := Lib.hid (fun u hu => by rw [List.mem_singleton.1 hu]; exact hop1.out.one)
  go_wp2_with (at_builtin; refine wpList_append_rd _ rfl (.tmp 15) (.tmp 18) 73 rfl 0 120 (.agg #[.nilFunc]) 1 8 Tryd.underlying73 callI v S.pend.length vs rfl (hrow.out.alloc _) (fun _ => True) (some ⟨w1.heap.size, 0, none⟩) 1 1 [.func (.func fn) #[] cap] rfl rfl (Rd.of_blk (cs := [.func (.func fn) #[] cap]) (r := []) (Blk.new_at rfl) rfl trivial) hone.out (by unfold maxLen; omega) (by omega) (Nat.zero_le _) ?_; intro v' w2 hrow2 hg2 hv2; obtain ⟨A', cap', rfl, _, _⟩ := own_form hrow2; have hB2 := (hd1.out.blk.alloc _).grown hg2 hgn.out; have z3 := hB2.frozen 2; have c3 : w2.cell? ⟨g, 2, none⟩ = some v := (by rw [hB2.cell]; rfl); replace hB2 := Lib.hid hB2; replace hrow2 := Lib.hid hrow2; replace hg2 := Lib.hid hg2; replace hv2 := Lib.hid hv2; go_frame)
  go_ret
  have hb1 : Below w1.heap.size w1 (w1.alloc (Obj.cells #[Value.func (Fn.func fn) #[] cap] 120)) := (Below.refl _ _).alloc (Nat.le_refl _) _
  have hd2 := hd1.out.below hb1
  have ht2 := Touch.ofBelow (L := []) hb1
  have hops2 : OpsAre (w1.alloc (Obj.cells #[Value.func (Fn.func fn) #[] cap] 120)) (S.pend ++ [o]) (vs ++ [.func (.func fn) #[] cap]) := (hops.out.snoc hop1.out).touch ht2 (by simp [NoBox])
  refine ⟨rfl, _, hd2.rowed hg2.out hrow2.out hops2 rfl, ?_, ?_⟩
  · refine (ht1.out.mono (L' := foot g bn bs v) (fun i hi => .inl (by have : i = bn := (by simpa using hi); rw [this]; simp [foot]))).trans (L' := foot g bn bs v) ?_ (fun i hi => .inl hi)
    refine (Touch.ofBelow hb1).trans (L' := foot g bn bs v) ?_ (fun i hi => .inl hi)
    exact (Touch.grown (L := foot g bn bs v) hg2.out (fun b hb => by simp [foot, hb])).trans (Touch.setCell (L := foot g bn bs v) _ (by simp [foot])) (fun i hi => .inl hi)
  · rcases hv2.out with hv | hv
    · exact .inl hv
    · right
      intro b hb
      rw [hv] at hb
      have := ht1.out.size
      simp at hb
      omega
end Go.Proofs.YtlenmkemjaaaoaaDoor
