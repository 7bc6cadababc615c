/- The tree of a text that was written at once, a chain: its list and its text. -/
import Derived.Test.YtamdhaoglapnnaaGreatDoorM07
import Derived.Test.YtamdhaoglapnnaaGreatDoorM06
namespace Go.Proofs.YtamdhaoglapnnaaGreatDoor
open Go.RowKit

/-- The elements of a text, one behind the other, from number k + 1 on. -/
def ChainAt (w : World) (id : Str) : Nat → Str → Value → List Nat → Prop
  | _, [], v, ns => v = nilS ∧ ns = []
  | k, c :: t, v, ns => ∃ a cap nb v' ns', v = .slice (some a) 1 cap ∧ w.cell? a = some (.pointer (some ⟨nb, 0, none⟩)) ∧ Blk w nb 354 (nodeCells ⟨false, id, ((k + 1 : Nat) : Int)⟩ c false nilS v') ∧ ChainAt w id (k + 1) t v' ns' ∧ ns = nb :: ns'
theorem ChainAt.below {w w' : World} {id : Str} (hb : Below w.heap.size w w') : ∀ {t : Str} {k : Nat} {v : Value} {ns : List Nat}, ChainAt w id k t v ns → ChainAt w' id k t v ns
  | [], _, _, _, h => h
  | _ :: _, _, _, _, ⟨a, cap, nb, v', ns', h1, h2, h3, h4, h5⟩ => ⟨a, cap, nb, v', ns', h1, by rw [hb.cell (p := a) (World.block_lt_of_cell? _ _ h2)]; exact h2, h3.below hb h3.lt, h4.below hb, h5⟩
theorem ChainAt.low {w w' : World} {id : Str} {B : Nat} (hb : Below B w w') : ∀ {t : Str} {k : Nat} {v : Value} {ns : List Nat}, ChainAt w id k t v ns → (∀ b, b < w.heap.size → w'.heap[b]? = w.heap[b]?) → ChainAt w' id k t v ns
  | [], _, _, _, h, _ => h
  | _ :: _, _, _, _, ⟨a, cap, nb, v', ns', h1, h2, h3, h4, h5⟩, hk => ⟨a, cap, nb, v', ns', h1, by
      have hl := World.block_lt_of_cell? _ _ h2
      unfold World.cell? at h2 ⊢
      rw [hk _ hl]
      exact h2, (hk _ h3.lt).trans h3, h4.low hb hk, h5⟩
def seenL (gone : Bool) (nb : Nat) : List Value := if gone then [] else [.pointer (some ⟨nb, 0, none⟩)]
def ptrs (ns : List Nat) : List Value := ns.map fun n => .pointer (some ⟨n, 0, none⟩)
def listF (lb : Nat) : Value := .func (.func 314) #[] #[.pointer (some ⟨lb, 0, none⟩)]
def walkF (cb fb : Nat) : Value := .func (.func 343) #[] #[.pointer (some ⟨cb, 0, none⟩), .pointer (some ⟨fb, 0, none⟩)]
structure WalkSt (W0 W : World) (lb fb cb : Nat) (xs : List Value) : Prop where
  below : Below lb W0 W
  size : cb < W.heap.size
  lf : lb < fb
  fc : fb < cb
  fbB : Blk W fb 412 [listF lb]
  cbB : Blk W cb 412 [walkF cb fb]
  row : ∃ V, Blk W lb 350 [V] ∧ W.ownsRow (cb + 1) 352 1 V xs.length xs
theorem infoN : InfoOf Tryz.prog 352 (.pointer none) 1 8 := ⟨by kernel_rfl, rfl, by omega⟩
theorem WalkSt.set {W0 W W1 W4 : World} {lb fb cb : Nat} {xs ys : List Value} {V V' : Value} (h : WalkSt W0 W lb fb cb xs) (hV : Blk W lb 350 [V]) (ho : W.ownsRow (cb + 1) 352 1 V xs.length xs)
    (h1 : Below W.heap.size W W1) (hg : W1.grownBy W4 V.ownBlock) (hrow : W4.ownsRow (cb + 1) 352 1 V' ys.length ys) : WalkSt W0 (W4.setCell ⟨lb, 0, none⟩ V') lb fb cb ys := by
  have ho1 : W1.ownsRow (cb + 1) 352 1 V xs.length xs := own_touch ho (Touch.ofBelow (L := []) h1) (fun b _ hm => by cases hm)
  have hlt : ∀ k, V.ownBlock = some k → cb + 1 ≤ k := fun k hk => (ho1.lt k hk).1
  have hlt' : ∀ k, V'.ownBlock = some k → cb + 1 ≤ k := fun k hk => (hrow.lt k hk).1
  have hsz := h.size
  have hlf := h.lf
  have hfc := h.fc
  have hne : ∀ k, k ≤ cb → some k ≠ V.ownBlock := fun k hk e => by
    have := hlt k e.symm
    omega
  have hs1 : cb + 1 ≤ W1.heap.size := Nat.le_trans hsz h1.size
  refine ⟨?_, ?_, hlf, hfc, ?_, ?_, V', ?_, ?_⟩
  · exact ((h.below.trans (h1.mono (by omega))).trans ((own_below ho1 hg hs1).mono (by omega))).setCell (Nat.le_refl _) _
  · have := hg.size
    simp
    omega
  · exact (((h.fbB.below h1 (by omega)).grown hg (hne fb (by omega))).far (by simp; omega) _)
  · exact (((h.cbB.below h1 (by omega)).grown hg (hne cb (by omega))).far (by simp; omega) _)
  · exact ((hV.below h1 (by omega)).grown hg (hne lb (by omega))).set_ 0 _
  · refine own_touch hrow (Touch.setCell (L := [lb]) _ (by simp)) ?_
    intro b hb hm
    have := hlt' b hb
    simp at hm
    omega
theorem WalkSt.drewN {W0 W : World} {lb fb cb : Nat} {xs : List Value} (h : WalkSt W0 W lb fb cb xs) (n : Nat) : WalkSt W0 (W.drewN n) lb fb cb xs := by
  have hT := Touch.drewN (w := W) (L := []) n
  obtain ⟨V, hV, ho⟩ := h.row
  have hs := h.size
  have h1 := h.lf
  have h2 := h.fc
  exact ⟨h.below.trans (hT.below (by omega) (fun _ hi => by cases hi)), Nat.lt_of_lt_of_le hs hT.size, h1, h2, h.fbB.drewN n, h.cbB.drewN n, V, hV.drewN n, own_touch ho hT (fun _ _ hm => by cases hm)⟩
theorem own_weak {w : World} {base base' : Nat} {e : TypeId} {n : Nat} {v : Value} {xs : List Value} (hb : base' ≤ base) (h : w.ownsRow base e 1 v n xs) : w.ownsRow base' e 1 v n xs := by
  rcases h with ⟨h1, ⟨h2, h3⟩ | ⟨g, cap, cur, h2, h3, h4⟩⟩
  · exact ⟨h1, .inl ⟨h2, h3⟩⟩
  · exact ⟨h1, .inr ⟨g, cap, cur, h2, Nat.le_trans hb h3, h4⟩⟩
set_option maxRecDepth 100000 in
set_option maxHeartbeats 1000000 in
theorem list1_add (W0 W : World) (lb fb cb nb : Nat) (xs : List Value) (r : PRef) (b : UInt8) (gone : Bool) (l rt : Value) (h : WalkSt W0 W lb fb cb xs) (hn : Blk W nb 354 (nodeCells r b gone l rt)) (hr : r.com.length = 32) (hx : xs.length ≤ 1099511627776) :
    Calls Tryz.prog 314 #[.pointer (some ⟨nb, 0, none⟩), .pointer (some ⟨lb, 0, none⟩)] W fun e W' => e = .returned (.bool true) ∧ WalkSt W0 W' lb fb cb (xs ++ seenL gone nb) := by
  have c0 : W.cell? ⟨nb, 35, none⟩ = some (.bool gone) := by rw [hn.cell]; simp [nodeCells, refCells, hr]
  obtain ⟨V, hV, ho⟩ := h.row
  have cV : W.cell? ⟨lb, 0, none⟩ = some V := by rw [hV.cell]; rfl
  have hst := Lib.hid h
  cases gone with
  | true =>
    clear h hn hr ho hV
    go_enter Tryz.func314, Tryz.ntmps314
    go_wp2
    go_ret
    exact ⟨rfl, by simpa [seenL] using hst.out⟩
  | false =>
    obtain ⟨FA, fc, rfl, _, _⟩ := own_form ho
    have hsz := h.size
    have hne := Lib.hid (fun e : some lb = (Value.slice FA xs.length fc).ownBlock => (by
      have h1 := (ho.lt lb e.symm).1
      have h2 := h.lf
      have h3 := h.fc
      omega : False))
    replace ho := Lib.hid ho
    replace hV := Lib.hid hV
    clear h hn hr
    go_enter Tryz.func314, Tryz.ntmps314
    go_wp2_with (at_builtin; refine wpList_append_rd _ rfl (.tmp 9) (.tmp 11) 350 rfl (cb + 1) 352 (.pointer none) 1 8 Tryz.underlying350 infoN (.slice FA xs.length fc) xs.length xs rfl (ho.out.alloc _) (fun _ => True) (some ⟨W.heap.size, 0, none⟩) 1 1 [.pointer (some ⟨nb, 0, none⟩)] rfl rfl (Rd.of_blk (cs := [.pointer (some ⟨nb, 0, none⟩)]) (r := []) (Blk.new_at rfl) rfl trivial) (by simp [Value.oneCell']) (by unfold maxLen; omega) (by omega) (by simp; omega) ?_; intro v4 W4 hrow4 hg4 hv4; replace hrow4 := Lib.hid hrow4; replace hg4 := Lib.hid hg4; clear hv4; obtain ⟨GA, gc, rfl, _, _⟩ := own_form hrow4.out; have hB4 : Blk W4 lb 350 [.slice FA xs.length fc] := (hV.out.alloc _).grown hg4.out hne.out; have cL : W4.cell? ⟨lb, 0, none⟩ = some (.slice FA xs.length fc) := hB4.cell 0; have fL := hB4.frozen 0; clear hB4; go_frame)
    go_ret
    refine ⟨rfl, hst.out.set hV.out ho.out ((Below.refl _ _).alloc (Nat.le_refl _) _) hg4.out ?_⟩
    have h5 := hrow4.out
    simpa [seenL] using h5
set_option maxRecDepth 100000 in
set_option maxHeartbeats 1000000 in
/-- From an element on: it, if it is seen, and the chain on its right. -/
theorem walk1_chain (id : Str) (hid : id.length = 32) (lb fb cb : Nat) (W0 : World) : ∀ (t : Str) (k : Nat) (v : Value) (ns : List Nat) (xs : List Value) (nb : Nat) (r : PRef) (b : UInt8) (gone : Bool) (W : World),
    WalkSt W0 W lb fb cb xs → Blk W0 nb 354 (nodeCells r b gone nilS v) → ChainAt W0 id k t v ns → W0.heap.size ≤ lb → r.com.length = 32 → xs.length + t.length ≤ 1000000000 →
    Calls Tryz.prog 343 #[.pointer (some ⟨nb, 0, none⟩), .pointer (some ⟨cb, 0, none⟩), .pointer (some ⟨fb, 0, none⟩)] W fun e W' => e = .returned (.bool true) ∧ WalkSt W0 W' lb fb cb (xs ++ (seenL gone nb ++ ptrs ns)) := by
  intro t
  induction t with
  | nil =>
    intro k v ns xs nb r b gone W h hn hc hl hr hx
    obtain ⟨rfl, rfl⟩ := hc
    have hn' : Blk W nb 354 (nodeCells r b gone nilS nilS) := hn.below h.below (Nat.lt_of_lt_of_le hn.lt hl)
    have c36 : W.cell? ⟨nb, 36, none⟩ = some nilS := by rw [hn'.cell]; simp [nodeCells, refCells, hr]
    have cf : W.cell? ⟨fb, 0, none⟩ = some (listF lb) := by rw [h.fbB.cell]; rfl
    have hcall := Lib.hid (list1_add W0 W lb fb cb nb xs r b gone nilS nilS h hn' hr (by simp at hx; omega))
    replace hn := Lib.hid hn
    unfold listF at cf
    clear h hn'
    go_enter Tryz.func343, Tryz.ntmps343
    go_wp2_with fail
    refine wp_loop_rounds 1 ?_
    rw [rounds_succ]
    go_wp2_with fail
    refine hcall.out.mono ?_
    rintro e W1 ⟨rfl, h1⟩
    have c37 : W1.cell? ⟨nb, 37, none⟩ = some nilS := by
      have hn1 := hn.out.below h1.below (Nat.lt_of_lt_of_le hn.out.lt hl)
      rw [hn1.cell]
      simp [nodeCells, refCells, hr]
    replace h1 := Lib.hid h1
    go_wp2_with fail
    go_rounds 1
    go_ret
    exact ⟨rfl, by simpa [ptrs] using h1.out⟩
  | cons c t ih =>
    intro k v ns xs nb r b gone W h hn hc hl hr hx
    obtain ⟨a, cap, nb1, v', ns', rfl, ha, hn1, hc1, rfl⟩ := hc
    have hih := Lib.hid (fun xs1 W1 h1 hx1 => ih (k + 1) v' ns' xs1 nb1 ⟨false, id, ((k + 1 : Nat) : Int)⟩ c false W1 h1 hn1 hc1 hl hid hx1)
    have hn' : Blk W nb 354 (nodeCells r b gone nilS (.slice (some a) 1 cap)) := hn.below h.below (Nat.lt_of_lt_of_le hn.lt hl)
    have c36 : W.cell? ⟨nb, 36, none⟩ = some nilS := by rw [hn'.cell]; simp [nodeCells, refCells, hr]
    have cf : W.cell? ⟨fb, 0, none⟩ = some (listF lb) := h.fbB.cell 0
    have hcall := Lib.hid (list1_add W0 W lb fb cb nb xs r b gone nilS (.slice (some a) 1 cap) h hn' hr (by simp at hx; omega))
    replace hn := Lib.hid hn
    have hx' := Lib.hid hx
    have hsl : (seenL gone nb).length ≤ 1 := by cases gone <;> simp [seenL]
    replace hsl := Lib.hid hsl
    have ha' := Lib.hid ha
    unfold listF at cf
    clear h hn' ih hn1 hc1 ha hx
    go_enter Tryz.func343, Tryz.ntmps343
    go_wp2_with fail
    refine wp_loop_rounds 1 ?_
    rw [rounds_succ]
    go_wp2_with fail
    refine hcall.out.mono ?_
    rintro e W1 ⟨rfl, h1⟩
    have c37 : W1.cell? ⟨nb, 37, none⟩ = some (.slice (some a) 1 cap) := by
      have hn1 := hn.out.below h1.below (Nat.lt_of_lt_of_le hn.out.lt hl)
      rw [hn1.cell]
      simp [nodeCells, refCells, hr]
    have cb1 : W1.cell? ⟨cb, 0, none⟩ = some (walkF cb fb) := h1.cbB.cell 0
    unfold walkF at cb1
    have ca : W1.cell? a = some (.pointer (some ⟨nb1, 0, none⟩)) := by
      rw [h1.below.cell (p := a) (Nat.lt_of_lt_of_le (World.block_lt_of_cell? _ _ ha'.out) hl)]
      exact ha'.out
    have hcall2 := Lib.hid (hih.out _ W1 h1 (by
      have e1 := hx'.out
      have e2 := hsl.out
      simp at e1 ⊢
      omega))
    clear h1
    go_wp2_with fail
    refine wp_loop_rounds 2 ?_
    rw [rounds_succ]
    go_wp2_with fail
    refine hcall2.out.mono ?_
    rintro e W2 ⟨rfl, h2⟩
    replace h2 := Lib.hid h2
    go_wp2_with fail
    rw [rounds_succ]
    go_wp2_with fail
    go_ret
    exact ⟨rfl, by simpa [ptrs, seenL] using h2.out⟩
set_option maxRecDepth 100000 in
set_option maxHeartbeats 1000000 in
theorem walk_chain (id : Str) (hid : id.length = 32) (t : Str) (tb nb mb ab : Nat) (seen : Int) (es us : List (Value × Value)) (v : Value) (ns : List Nat) (w W : World) (lb : Nat) (h : TreeAt w tb nb mb ab seen es us v) (hc : ChainAt w id 0 t v ns) (hl : t.length ≤ 1000000) (hlb : lb = w.heap.size) (hW : W = w.alloc (.cells #[nilS] 350)) :
    Calls Tryz.prog 313 #[.pointer (some ⟨tb, 0, none⟩), listF lb] W fun e W' => e = .returned (.tuple #[]) ∧ Below lb w W' ∧ ∃ V, Blk W' lb 350 [V] ∧ W'.ownsRow lb 352 1 V ns.length (ptrs ns) := by
  have hsW : W.heap.size = lb + 1 := by rw [hW, hlb]; simp
  have hbW : Below lb w W := by rw [hW, hlb]; exact (Below.refl _ _).alloc (Nat.le_refl _) _
  have hBl : Blk W lb 350 [nilS] := by rw [hW]; exact Blk.new_at (cs := [nilS]) hlb
  have hT : TreeAt W tb nb mb ab seen es us v := h.below (by rw [← hlb]; exact hbW)
  have hmade := Lib.hid (fun W => fmade_any tb nb mb ab seen es us v W)
  have hTb := Lib.hid (fun W2 (hb : Below W.heap.size W W2) => hT.below hb)
  have c0 : (W.alloc (.cells #[listF lb] 412)).cell? ⟨tb, 0, none⟩ = some (.pointer (some ⟨nb, 0, none⟩)) := by
    rw [((hT.below ((Below.refl _ _).alloc (Nat.le_refl _) _)).tree).cell]
    rfl
  obtain ⟨W3, hW3⟩ : ∃ W3, W3 = (W.alloc (.cells #[listF lb] 412)).alloc (.cells #[walkF (W.heap.size + 1) W.heap.size] 412) := ⟨_, rfl⟩
  have hb3 : Below W.heap.size W W3 := by rw [hW3]; exact ((Below.refl _ _).alloc (Nat.le_refl _) _).alloc (by simp) _
  have hst : WalkSt w W3 lb W.heap.size (W.heap.size + 1) [] := by
    refine ⟨hbW.trans (hb3.mono (by omega)), by rw [hW3]; simp, by omega, by omega, ?_, ?_, nilS, hBl.below hb3 (by omega), rfl, .inl ⟨rfl, rfl⟩⟩
    · rw [hW3]
      exact (Blk.new_at (cs := [listF lb]) rfl).alloc _
    · rw [hW3]
      exact Blk.new_at (cs := [walkF (W.heap.size + 1) W.heap.size]) (by simp)
  have hT3 := hT.below hb3
  have c3 : W3.cell? ⟨tb, 0, none⟩ = some (.pointer (some ⟨nb, 0, none⟩)) := hT3.tree.cell 0
  have cb3 : W3.cell? ⟨W.heap.size + 1, 0, none⟩ = some (walkF (W.heap.size + 1) W.heap.size) := hst.cbB.cell 0
  have hcall := Lib.hid (fun n => walk1_chain id hid lb W.heap.size (W.heap.size + 1) w t 0 v ns [] nb rootRef 0 true (W3.drewN n) (hst.drewN n) h.root hc (by omega) (by decide) (by simp; omega))
  unfold walkF listF at hW3
  unfold walkF at cb3
  clear hst hT3 hb3 hc
  clear h hW
  replace hlb := Lib.hid hlb
  replace hsW := Lib.hid hsW
  replace hbW := Lib.hid hbW
  replace hBl := Lib.hid hBl
  replace hT := Lib.hid hT
  replace hW3 := Lib.hid hW3
  unfold listF at c0 ⊢
  go_enter Tryz.func313, Tryz.ntmps313
  go_wp2_with fail
  refine (hmade.out _ (hTb.out _ ((Below.refl _ _).alloc (Nat.le_refl _) _))).mono ?_
  rintro e W2 ⟨rfl, rfl⟩
  go_wp2_with fail
  rw [← hW3.out]
  refine quiet_tail 5 (by kernel_rfl) (by kernel_rfl) ?_
  simp only [List.take_succ_cons, List.take_zero, List.drop_succ_cons, List.drop_zero]
  repeat (first | go_big_quiet_step (fail))
  refine wpQuiet_nil ?_
  rintro _ ⟨nq, rfl⟩
  go_wp2_with fail
  refine (hcall.out nq).mono ?_
  rintro e w4 ⟨rfl, h4⟩
  replace h4 := Lib.hid h4
  go_wp2_with fail
  refine bodyPost_end (v := .tuple #[]) (results_none (by rfl) _ _ _) rfl ⟨rfl, h4.out.below, ?_⟩
  obtain ⟨V, hV, ho⟩ := h4.out.row
  have e1 := hsW.out
  refine ⟨V, hV, own_weak (base := W.heap.size + 1 + 1) (by omega) ?_⟩
  simpa [seenL, ptrs] using ho
set_option maxRecDepth 100000 in
set_option maxHeartbeats 1000000 in
theorem list_chain (id : Str) (hid : id.length = 32) (t : Str) (tb nb mb ab : Nat) (seen : Int) (es us : List (Value × Value)) (v : Value) (ns : List Nat) (w : World) (h : TreeAt w tb nb mb ab seen es us v) (hc : ChainAt w id 0 t v ns) (hl : t.length ≤ 1000000) :
    Calls Tryz.prog 260 #[.pointer (some ⟨tb, 0, none⟩)] w fun e w' => ∃ V, e = .returned V ∧ w'.ownsRow w.heap.size 352 1 V ns.length (ptrs ns) ∧ Below w.heap.size w w' := by
  have hcall := Lib.hid (walk_chain id hid t tb nb mb ab seen es us v ns w (w.alloc (.cells #[nilS] 350)) w.heap.size h hc hl rfl rfl)
  clear h hc
  unfold listF at hcall
  go_enter Tryz.func260, Tryz.ntmps260
  go_wp2_with fail
  refine hcall.out.mono ?_
  rintro e w2 ⟨rfl, hb, V, hV, ho⟩
  have cV : w2.cell? ⟨w.heap.size, 0, none⟩ = some V := hV.cell 0
  replace hb := Lib.hid hb
  replace ho := Lib.hid ho
  obtain ⟨FA, fc, rfl, _, _⟩ := own_form ho.out
  clear hV
  go_wp2_with fail
  go_ret
  exact ⟨_, rfl, ho.out, hb.out⟩
theorem chain_nodes {w : World} {id : Str} (hid : id.length = 32) : ∀ (t : Str) (k : Nat) (v : Value) (ns : List Nat), ChainAt w id k t v ns → ns.length = t.length ∧ ∀ (i : Nat) (h : i < t.length), ∃ nb, ns[i]? = some nb ∧ nb < w.heap.size ∧ w.cell? ⟨nb, 34, none⟩ = some (B t[i])
  | [], _, _, _, ⟨_, h2⟩ => by
    subst h2
    exact ⟨rfl, fun i h => absurd h (by simp)⟩
  | c :: t, k, v, ns, ⟨a, cap, nb, v', ns', h1, h2, h3, h4, h5⟩ => by
    obtain ⟨e1, e2⟩ := chain_nodes hid t (k + 1) v' ns' h4
    subst h5
    refine ⟨by simp [e1], fun i h => ?_⟩
    cases i with
    | zero =>
      refine ⟨nb, rfl, h3.lt, ?_⟩
      rw [h3.cell]
      simp [nodeCells, refCells, hid]
    | succ i =>
      simpa using e2 i (by simpa using h)
theorem chain_node {w : World} {id : Str} (hid : id.length = 32) {t : Str} {k : Nat} {v : Value} {ns : List Nat} (h : ChainAt w id k t v ns) (i : Nat) (hi : i < t.length) : ∃ nb, (ptrs ns)[i]? = some (.pointer (some ⟨nb, 0, none⟩)) ∧ nb < w.heap.size ∧ w.cell? ⟨nb, 34, none⟩ = some (B t[i]) := by
  obtain ⟨nb, h1, h2, h3⟩ := (chain_nodes hid t k v ns h).2 i hi
  exact ⟨nb, by simp [ptrs, h1], h2, h3⟩
theorem take_at1 {t : Str} {m : Nat} (h : m < t.length) : t.take (m + 1) = t.take m ++ [t[m]] := by
  rw [List.take_add_one, List.getElem?_eq_getElem h]
  rfl
set_option maxRecDepth 100000 in
set_option maxHeartbeats 1000000 in
theorem text_chain (id : Str) (hid : id.length = 32) (t : Str) (tb nb mb ab : Nat) (seen : Int) (es us : List (Value × Value)) (v : Value) (ns : List Nat) (w : World) (h : TreeAt w tb nb mb ab seen es us v) (hc : ChainAt w id 0 t v ns) (hl : t.length ≤ 1000000) :
    Calls Tryz.prog 187 #[.pointer (some ⟨tb, 0, none⟩)] w fun e w' => e = .returned (strV t) ∧ Below w.heap.size w w' := by
  have hcall := Lib.hid (list_chain id hid t tb nb mb ab seen es us v ns w h hc hl)
  have hnl : ns.length = t.length := (chain_nodes hid t 0 v ns hc).1
  have hnode := Lib.hid (fun i hi => chain_node hid hc i hi)
  replace hnl := Lib.hid hnl
  clear h hc
  go_enter Tryz.func187, Tryz.ntmps187
  go_wp2_with fail
  refine hcall.out.mono ?_
  rintro e w2 ⟨V, rfl, ho, hb⟩
  obtain ⟨LA, lc, rfl, _, _⟩ := own_form ho
  have hrd := Lib.hid (own_rd ho)
  rw [hnl.out]
  have hpl := Lib.hid (show (ptrs ns).length = t.length by simp [ptrs, hnl.out])
  clear ho
  replace hb := Lib.hid hb
  go_wp2_with fail
  go_loopw [3, 9] (fun b i wr => ∃ m : Nat, m ≤ t.length ∧ i = .int .i64 m ∧ wr.ownsRow w2.heap.size 5 1 b m ((t.take m).map B) ∧ Below w2.heap.size w2 wr) (fun _ i _ => t.length - (intOf i).toNat)
  case atStart => exact ⟨0, Nat.zero_le _, rfl, ⟨rfl, .inl ⟨rfl, rfl⟩⟩, Below.refl _ _⟩
  case round =>
    obtain ⟨m, hm, rfl, hrow, hbr⟩ := hrel
    obtain ⟨FA, fc, rfl, _, _⟩ := own_form hrow
    by_cases hlt : m < t.length
    · obtain ⟨nb1, hp, hnb, hcell⟩ := hnode.out m hlt
      obtain ⟨b, o, rfl, _, hbl, hcells⟩ := hrd.out.at (by rw [hpl.out]; omega)
      have cP : wr.cell? ⟨b, o + m, none⟩ = some (.pointer (some ⟨nb1, 0, none⟩)) := by rw [hbr.cell (p := ⟨b, o + m, none⟩) hbl]; exact hcells m _ hp
      have cB : wr.cell? ⟨nb1, 34, none⟩ = some (B t[m]) := by
        rw [hbr.cell (p := ⟨nb1, 34, none⟩) (Nat.lt_of_lt_of_le hnb hb.out.size), hb.out.cell (p := ⟨nb1, 34, none⟩) hnb]
        exact hcell
      have htk := Lib.hid (take_at1 hlt)
      have hln := Lib.hid (show (t.take m).length = m by simp; omega)
      obtain ⟨c, hcc⟩ : ∃ c, c = t[m] := ⟨_, rfl⟩
      obtain ⟨zs, hzs⟩ : ∃ zs, zs = t.take m := ⟨_, rfl⟩
      rw [← hcc] at cB htk
      rw [← hzs] at htk hrow hln
      replace hrow := Lib.hid hrow
      replace hbr := Lib.hid hbr
      have i1 : (0 : Int) ≤ (m : Int) := by omega
      have i2 : (m : Int) < (t.length : Int) := by omega
      clear hp hcell hcells hcc hzs
      go_wp2_with (at_builtin; refine wpList_append_rd _ rfl (.tmp 13) (.tmp 18) 49 rfl w2.heap.size 5 (B 0) 1 1 Tryz.underlying49 infoB (.slice FA m fc) m (zs.map B) rfl (hrow.out.alloc _) (fun _ => True) (some ⟨wr.heap.size, 0, none⟩) 1 1 [B c] rfl rfl (Rd.of_blk (cs := [B c]) (r := []) (Blk.new_at rfl) rfl trivial) (by simp [Value.oneCell']) (by unfold maxLen; omega) (by omega) (by have := hbr.out.size; simp; omega) ?_; intro v4 W4 hrow4 hg4 hv4; replace hrow4 := Lib.hid hrow4; replace hg4 := Lib.hid hg4; clear hv4; obtain ⟨GA, gc, rfl, _, _⟩ := own_form hrow4.out; go_frame)
      go_roundw
      case rel =>
        have hsz := hbr.out.size
        refine ⟨m + 1, by omega, ?_, ?_, ?_⟩
        · go_num
        · have h5 := hrow4.out
          rw [htk.out, List.map_append]
          exact h5
        · exact (hbr.out.alloc hsz _).trans (own_below (hrow.out.alloc _) hg4.out (by simp; omega))
      case measure => simp [intOf]; omega
    · have hmt : m = t.length := by omega
      subst hmt
      replace hrow := Lib.hid hrow
      have hbr' := Lib.hid hbr
      have hr3 := own_rd hrow.out
      rw [List.take_length] at hr3
      replace hr3 := Lib.hid hr3
      clear hbr
      go_wp2_with (refine wpList_to_string rfl 49 9 (.tmp 21) rfl 5 Tryz.underlying49 Tryz.underlying5 Tryz.underlying9 FA t fc rfl hr3.out ?_; go_frame)
      go_ret
      exact ⟨rfl, hb.out.trans (hbr'.out.mono hb.out.size)⟩
end Go.Proofs.YtamdhaoglapnnaaGreatDoor
