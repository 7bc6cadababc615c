/- The first name is written, behind a first file. -/
import Derived.Test.YtamdhaoglapnnaaGreatDoorM38
section
namespace Go.Proofs.YtamdhaoglapnnaaGreatDoor
open Go.RowKit

/-- The change that makes the first name. -/
abbrev oneC (n ds : Str) : List Chg := [⟨n, [], [ds]⟩]
theorem oneC_apply {n ds : Str} (hn : nmOk n = true) : applyE [] (oneC n ds) = 0 ∧ applyT [] (oneC n ds) = oneT n ds := by
  have e : applyE [] (oneC n ds) = 0 := by
    simp [applyE, mayE, mayF, wrongsE, wrongE, hn, headsE, rises, getT, putsT, putT, putG]
  refine ⟨e, ?_⟩
  unfold applyT
  rw [if_pos e]
  simp [putsT, putT, putG]
theorem oneC_fit {n ds : Str} (hn : nmOk n = true) (hdl : ds.length = 32) : CFit (oneC n ds) := by
  refine ⟨by simp, fun c hc => ?_⟩
  obtain rfl := List.mem_singleton.1 hc
  refine ⟨by have := nmOk_len' hn; show n.length ≤ _; omega, ⟨by simp, fun d hd => by cases hd⟩, ⟨by simp, fun d hd => ?_⟩⟩
  obtain rfl := List.mem_singleton.1 hd
  exact hdl
theorem do_one {w0 : World} {base rb g bn bs : Nat} {pv v u : Value} {S : DS} {W : World} {n ds : Str} {ok' : Nat → Prop} (hn : nmOk n = true) (hdl : ds.length = 32) (h : Ref w0 base rb g v S [] W) (hD : DiskAt W g bn bs pv S) (hL : ∀ i ∈ foot g bn bs pv, base ≤ i) (hi : Inv S 1) (ho : S.off = false) (hf : S.fuse = -1) (hx : fHas S.now nextN = false) (hl : fLen S.now = 1)
    (hroom : (fSum S.now : Int) + 65536 ≤ S.room) (h' : ChsIs W ok' u (oneC n ds)) :
    Calls Tryz.prog 180 #[.pointer (some ⟨rb, 0, none⟩), u] W fun e W' => e = .returned (.int .i64 0) ∧ Keeps W W' ∧ Touch (rb :: foot g bn bs pv) W W' ∧ ∃ v' S', Ref w0 base rb g v' S' (oneT n ds) W' ∧ OwnTab W' W.heap.size v' (oneT n ds) := by
  obtain ⟨hE, hT⟩ := oneC_apply (ds := ds) hn
  have hm := oneT_may (ds := ds) hn
  have hh := oneT_ok (n := n) hdl
  have hl1 := print_small hm hh
  have hP : printT (oneT n ds) = printS (oneT n ds) := by unfold printT; rw [if_pos hm]
  have hch : Chain4 S (printT (oneT n ds)) := chain4 hi (by omega) ho hf hx (by rw [hP]; omega) (by omega)
  have hdo := do_late rb g bn bs pv v u S [] (oneC n ds) _ ok' W h.ref h.own.tab ⟨by simp, fun b hb => absurd hb (by simp)⟩ h' (oneC_fit hn hdl) hE (by simp) (by rw [hT]; exact oneT_fit hn hdl) (by rw [hT, hP]; omega) hD (by exact hch.a0) (by rw [hT]; exact hch.a1) (by rw [hT]; exact hch.a2) (by rw [hT]; exact hch.a3)
  rw [hT] at hdo
  refine hdo.mono ?_
  rintro e W' ⟨he, ht, ⟨L', hD', hL'⟩, nv, hB, hO⟩
  rw [hch.e] at he hB hO
  rw [if_pos rfl] at hO
  have hb : ∀ i ∈ rb :: foot g bn bs pv, base ≤ i := fun i hi => by
    rcases List.mem_cons.1 hi with rfl | hi
    · exact h.low
    · exact hL i hi
  refine ⟨he, fun k t cs hBk a b c => hBk.touch ht (fun hm => ?_), ht, nv, _, ⟨⟨h.bel.trans (ht.below h.size hb), Nat.le_trans h.size ht.size, L', hD', fun i hi => ?_⟩, h.low, hB, hO.lower h.size⟩, hO⟩
  · rcases List.mem_cons.1 hm with rfl | hm
    · exact a (hBk.unique h.ref)
    · exact hD.tag hBk b c hm
  · rcases hL' i hi with h1 | h1
    · exact hL i h1
    · exact Nat.le_trans h.size h1
end Go.Proofs.YtamdhaoglapnnaaGreatDoor
end
section
/- What is handed to a turn outlives the disk's calls. -/
namespace Go.Proofs.YtamdhaoglapnnaaGreatDoor
open Go.RowKit

/-- A block that neither the disk nor the names nor the repository writes. -/
def Fr (w : World) (b : Nat) : Prop := ∃ t cs, Blk w b t cs ∧ t ≠ 147 ∧ t ≠ 90 ∧ t ≠ 145 ∧ t ≠ 104
/-- A record of a statement 'for .. range f': no cells, no map. -/
def isMark : Obj → Bool
  | .deferred _ => true
  | .loop _ => true
  | _ => false
theorem lt_of_heap {W : World} {k : Nat} {o : Obj} (h : W.heap[k]? = some o) : k < W.heap.size := (Array.getElem?_eq_some_iff.1 h).1
theorem mark_touch {W W' : World} {L : List Nat} {k : Nat} {o : Obj} (ht : Touch L W W') (h : W.heap[k]? = some o) (hn : k ∉ L) : W'.heap[k]? = some o := (ht.block k (lt_of_heap h) hn).trans h
theorem mark_blk {W : World} {k : Nat} {o : Obj} {t : TypeId} {cs : List Value} (h : W.heap[k]? = some o) (hm : isMark o = true) : ¬ Blk W k t cs := fun hB => by
  unfold Blk at hB
  rw [h] at hB
  injection hB with hB
  subst hB
  cases hm
theorem mark_map {W : World} {k : Nat} {o : Obj} {D : DM} (h : W.heap[k]? = some o) (hm : isMark o = true) : ¬ MapIs W k D := fun hB => by
  obtain ⟨es, c, h'⟩ := hB.at
  rw [h] at h'
  injection h' with h'
  subst h'
  cases hm
theorem mark_foot {W : World} {g bn bs : Nat} {pv : Value} {S : DS} (hD : DiskAt W g bn bs pv S) {k : Nat} {o : Obj} (h : W.heap[k]? = some o) (hm : isMark o = true) : k ∉ foot g bn bs pv := fun hf => by
  rcases DiskAt.mem_foot hf with rfl | rfl | rfl | e
  · exact mark_blk h hm hD.blk
  · exact mark_map h hm hD.now
  · exact mark_map h hm hD.sure
  · obtain ⟨vs, ho, _⟩ := hD.row
    obtain ⟨cs, hB⟩ := own_blk ho k e
    exact mark_blk h hm hB
structure KeepsR (W W' : World) : Prop where
  blk : ∀ k t cs, Blk W k t cs → t ≠ 147 → t ≠ 90 → t ≠ 145 → t ≠ 104 → Blk W' k t cs
  mark : ∀ (k : Nat) (o : Obj), W.heap[k]? = some o → isMark o = true → W'.heap[k]? = some o
/-- What a commit keeps: all that it was not to turn. -/
structure KeepsC (ic : Nat) (W W' : World) : Prop where
  blk : ∀ k t cs, Blk W k t cs → t ≠ 147 → t ≠ 90 → t ≠ 145 → t ≠ 104 → k ≠ ic → Blk W' k t cs
  mark : ∀ (k : Nat) (o : Obj), W.heap[k]? = some o → isMark o = true → W'.heap[k]? = some o
theorem KeepsR.disk {W W' : World} {g bn bs : Nat} {pv : Value} {S : DS} (hD : DiskAt W g bn bs pv S) (ht : Touch (foot g bn bs pv) W W') : KeepsR W W' :=
  ⟨fun k t cs hB a b c _ => Keeps.touch hD ht k t cs hB a b c, fun _ _ h hm => mark_touch ht h (mark_foot hD h hm)⟩
theorem KeepsR.names {W W' : World} {g bn bs rb : Nat} {pv : Value} {S : DS} {cs : List Value} (hD : DiskAt W g bn bs pv S) (hR : Blk W rb 147 cs) (ht : Touch (rb :: foot g bn bs pv) W W') (hk : Keeps W W') : KeepsR W W' :=
  ⟨fun k t cs hB a b c _ => hk k t cs hB a b c, fun k _ h hm => mark_touch ht h (fun hf => by
    rcases List.mem_cons.1 hf with rfl | hf
    · exact mark_blk h hm hR
    · exact mark_foot hD h hm hf)⟩
theorem KeepsR.one {W W' : World} {i : Nat} {t : TypeId} {cs : List Value} (hB : Blk W i t cs) (ht : Touch [i] W W') (h : t = 104) : KeepsR W W' :=
  ⟨fun k t' cs' hB' a b c d => hB'.touch ht (fun hm => by
    obtain rfl : k = i := by simpa using hm
    exact d ((hB'.unique hB).trans h)), fun k _ h hm => mark_touch ht h (fun hf => by
    obtain rfl : k = i := by simpa using hf
    exact mark_blk h hm hB)⟩
theorem KeepsR.below {W W' : World} (h : Below W.heap.size W W') : KeepsR W W' := ⟨fun _ _ _ hB _ _ _ _ => hB.below h hB.lt, fun k _ ho _ => (h.block k (lt_of_heap ho)).trans ho⟩
theorem KeepsR.trans {A B C : World} (h : KeepsR A B) (h' : KeepsR B C) : KeepsR A C := ⟨fun k t cs hB a b c d => h'.blk k t cs (h.blk k t cs hB a b c d) a b c d, fun k o ho hm => h'.mark k o (h.mark k o ho hm) hm⟩
theorem KeepsR.heap {W W' : World} (h : KeepsR W W') {b : Nat} (hb : Fr W b) : W'.heap[b]? = W.heap[b]? := by
  obtain ⟨t, cs, hB, h1, h2, h3, h4⟩ := hb
  have h' := h.blk b t cs hB h1 h2 h3 h4
  exact Eq.trans h' (Eq.symm hB)
theorem KeepsR.fr {W W' : World} (h : KeepsR W W') {b : Nat} (hb : Fr W b) : Fr W' b := by
  obtain ⟨t, cs, hB, h1, h2, h3, h4⟩ := hb
  exact ⟨t, cs, h.blk b t cs hB h1 h2 h3 h4, h1, h2, h3, h4⟩
theorem KeepsR.ops {W W' : World} (h : KeepsR W W') {v : Value} {l : List POp} (hO : OpsIs W (Fr W) v l) : OpsIs W' (Fr W') v l := hO.stay (fun _ hb _ => h.heap hb) (fun _ hb _ => h.fr hb)
theorem KeepsR.chs {W W' : World} (h : KeepsR W W') {v : Value} {l : List Chg} (hO : ChsIs W (Fr W) v l) : ChsIs W' (Fr W') v l := hO.stay (fun _ hb _ => h.heap hb) (fun _ hb _ => h.fr hb)
/-- A block of operations. -/
def OpB (w : World) (b : Nat) : Prop := ∃ cs, Blk w b 283 cs
theorem OpB.fr {w : World} {b : Nat} (h : OpB w b) : Fr w b := by
  obtain ⟨cs, hB⟩ := h
  exact ⟨_, cs, hB, by decide, by decide, by decide, by decide⟩
theorem OpsIs.fr {w : World} {v : Value} {l : List POp} (h : OpsIs w (OpB w) v l) : OpsIs w (Fr w) v l := h.stay (fun _ _ _ => rfl) (fun _ hb _ => hb.fr)
theorem KeepsR.opb {W W' : World} (h : KeepsR W W') {v : Value} {l : List POp} (hO : OpsIs W (OpB W) v l) : OpsIs W' (OpB W') v l := hO.stay (fun _ hb _ => h.heap hb.fr) (fun _ hb _ => by
  obtain ⟨cs, hB⟩ := hb
  exact ⟨cs, h.blk _ _ _ hB (by decide) (by decide) (by decide) (by decide)⟩)
theorem OpsIs.touchB {w w' : World} {L : List Nat} {v : Value} {l : List POp} (h : OpsIs w (OpB w) v l) (ht : Touch L w w') (hL : ∀ i ∈ L, ∀ cs, ¬ Blk w i 283 cs) : OpsIs w' (OpB w') v l :=
  h.stay (fun b hb hlt => by
    obtain ⟨cs, hB⟩ := hb
    exact ht.block b hlt (fun hm => hL b hm _ hB)) (fun b hb _ => by
    obtain ⟨cs, hB⟩ := hb
    exact ⟨cs, hB.touch ht (fun hm => hL b hm _ hB)⟩)
theorem OwnTab.touchLow {w w' : World} {L : List Nat} {base : Nat} {v : Value} {T : Tab} (h : OwnTab w base v T) (ht : Touch L w w') (hn : ∀ i ∈ L, i < base) : OwnTab w' base v T := by
  obtain ⟨vs, hl, ho, hh⟩ := h
  refine ⟨vs, hl, own_touch ho ht (fun b hb hm => ?_), fun k b u h1 h2 => (hh k b u h1 h2).keep (fun b cs hle hB => hB.touch ht (fun hm => ?_))⟩
  · have h1 := (ho.lt b hb).1
    have h2 := hn b hm
    omega
  · have h2 := hn b hm
    omega
end Go.Proofs.YtamdhaoglapnnaaGreatDoor
end
section
/- The turn of a first commit. -/
namespace Go.Proofs.YtamdhaoglapnnaaGreatDoor
open Go.RowKit

def looseN (d : Str) : Str := 111 :: hexOf d
theorem looseN_ok {d : Str} (h : d.length = 32) : nameB (looseN d) = true ∧ looseN d ≠ nextN ∧ (looseN d).length ≤ 80 := by
  have hl : (looseN d).length = 65 := by show (hexOf d).length + 1 = 65; rw [hexOf_length, h]
  refine ⟨by unfold nameB; simp [hl], fun e => ?_, by omega⟩
  rw [e] at hl
  exact absurd hl (by decide)
theorem enc_len (a t : Str) (ha : nmOk a = true) (ht : t.length ≤ 1000) : (encS (comT a t)).length ≤ 100000 := by
  rw [enc_first]
  have h0 := nmOk_len ha
  have h2 := flat_len t 0 (by omega)
  have h3 := txtS_len (s := a) (by omega)
  have h4 := txtS_len (s := []) (by simp)
  have h5 := putN_len 2 t.length (by omega)
  have h6 : (putN 0).length = 1 := by rw [putN_small (by decide)]; rfl
  simp only [headS, List.length_append]
  simp only [List.length_nil] at h4
  unfold chain
  omega
theorem row_cells {w : World} {base : Nat} {e : TypeId} {s : Nat} {v : Value} {n : Nat} {xs : List Value} (h : w.ownsRow base e s v n xs) {b : Nat} (hb : v.ownBlock = some b) : ∃ cs, Blk w b e cs := by
  rcases h with ⟨h1, ⟨rfl, h3⟩ | ⟨g, cap, cur, rfl, h3, h4, h5, h6, h7, h8⟩⟩
  · cases hb
  · have e1 : g = b := by simpa [Value.ownBlock] using hb
    subst e1
    exact ⟨cur.toList, h4⟩
theorem own_ops {w : World} {base n : Nat} {V : Value} {l : List POp} (h : w.ownsRow base 283 37 V n (oCells l)) (hn : l.length = n) : OpsIs w (OpB w) V l := by
  rcases h with ⟨h1, ⟨rfl, h3⟩ | ⟨g, cap, cur, rfl, h3, h4, h5, h6, h7, h8⟩⟩
  · exact ⟨none, 0, by rw [hn, h3], by omega, fun hp => by omega⟩
  · have hB : Blk w g 283 cur.toList := h4
    refine ⟨some ⟨g, 0, none⟩, cap, by rw [hn], by omega, fun hp => ?_⟩
    exact Rd.of_blk (ok := OpB w) (xs := oCells l) (r := cur.toList.drop (n * 37)) hB (by rw [← h8, List.drop_zero, List.take_append_drop]) ⟨_, hB⟩ hp
theorem Ref.touched {w0 : World} {base rb g : Nat} {v : Value} {S : DS} {T : Tab} {W W' : World} {L M : List Nat} (h : Ref w0 base rb g v S T W) (hD : DiskIs W L g S) (hL : ∀ i ∈ L, base ≤ i) (ht : Touch M W W') (hM : ∀ i ∈ M, base ≤ i) (hd : ∀ i ∈ L, i ∉ M)
    (hT : ∀ i ∈ M, ∀ t cs, Blk W i t cs → t ≠ 9 ∧ t ≠ 147 ∧ t ≠ 138 ∧ t ≠ 115) : Ref w0 base rb g v S T W' :=
  ⟨⟨h.bel.trans (ht.below h.size hM), Nat.le_trans h.size ht.size, L, hD.touch ht hd (fun i hi _ hB => (hT i hi _ _ hB).1 rfl), hL⟩, h.low, h.ref.touch ht (fun hm => (hT _ hm _ _ h.ref).2.1 rfl), h.own.touch ht (fun i hi t cs hB => (hT i hi t cs hB).2.2)⟩
set_option maxRecDepth 100000 in
set_option maxHeartbeats 16000000 in
theorem turn_first (a t n : Str) (hn : nmOk n = true) (ha : nmOk a = true) (ht : t.length ≤ 1000) (h0 : t ≠ []) {w0 : World} {base g rb : Nat} {S : DS} {v u : Value} {w : World} (h : Ref w0 base rb g v S [] w) (hS : Live S none) (hroom : 1000000 ≤ S.room) (r by_ : Nat) (hR : Blk w r 104 (repoCells nilS by_ rb g a false)) (hr : base ≤ r)
    (OA : Option Addr) (oc : Nat) (hO : OpsIs w (Fr w) (.slice OA t.length oc) (chain t)) (fb fc : Nat) (rest : List Value) (hF : Blk w fb 155 (comL a (.slice OA t.length oc) ++ rest)) (hC : ChsIs w (Fr w) u (oneC n (idT a t))) (hky : ∀ W, Below base w0 W → KeysIn W) :
    Calls Tryz.prog 114 #[.pointer (some ⟨r, 0, none⟩), .slice (some ⟨fb, 0, none⟩) 1 fc, u] w fun e w' => e = .returned (.int .i64 0) ∧ KeepsR w w' ∧ ∃ lb lc rest' by' V v' S', Blk w' r 104 (repoCells (.slice (some ⟨lb, 0, none⟩) 1 lc) by' rb g a false) ∧ Blk w' lb 155 (comL a V ++ rest') ∧ OpsIs w' (OpB w') V (chain t) ∧ MapV w' by' [(.agg ((idT a t).map B).toArray, .int .i64 0)] ∧ Ref w0 base rb g v' S' (oneT n (idT a t)) w' ∧ OwnTab w' w.heap.size v' (oneT n (idT a t)) ∧ base ≤ lb ∧ base ≤ by' := by
  have hid := idT_len a t
  have hT0 : TFit ([] : Tab) := ⟨by simp, fun b hb => absurd hb (by simp)⟩
  have hall := Lib.hid (rAll_any r nilS by_ rb g a false _ _ v [] _ w hR h.ref h.own.tab hT0)
  have hcf := oneC_fit hn hid
  have hce := (oneC_apply (ds := idT a t) hn).1
  obtain ⟨UA, uc, rfl, huc⟩ := hC.form
  replace h := Lib.hid h
  replace hR := Lib.hid hR
  replace hO := Lib.hid hO
  replace hC := Lib.hid hC
  replace hF := Lib.hid hF
  replace hky := Lib.hid hky
  go_enter Tryz.func114, Tryz.ntmps114
  go_wp2_with fail
  refine hall.out.mono ?_
  rintro e w1 ⟨V, rfl, ho, hb1⟩
  obtain ⟨VA, vc, rfl, _⟩ := ho.form
  go_wp2_with fail
  have hap := apply_any [] (oneC n (idT a t)) _ _ _ _ w1 ho.tab hT0 (hC.out.stayB hb1) hcf
  refine hap.mono ?_
  rintro e w2 ⟨V, rfl, ho2, hb2⟩
  rw [hce]
  obtain ⟨VB, vd, rfl, _⟩ := ho2.form
  have hb2' := hb1.trans (hb2.mono hb1.size)
  clear ho ho2 hap hall
  replace hb2' := Lib.hid hb2'
  go_wp2_with fail
  have hF2 := hF.out.below hb2'.out hF.out.lt
  have l0 : w2.cell? ⟨fb, 0, none⟩ = some nilS := hF2.cell 0
  have l1 : w2.cell? ⟨fb, 1, none⟩ = some (.string ⟨a.toArray⟩) := hF2.cell 1
  have l2 : w2.cell? ⟨fb, 2, none⟩ = some (.string ⟨#[]⟩) := hF2.cell 2
  have l3 : w2.cell? ⟨fb, 3, none⟩ = some (.slice OA t.length oc) := hF2.cell 3
  clear hF2
  refine wp_loop_rounds 2 ?_
  rw [rounds_succ]
  go_wp2_with fail
  generalize hW3 : World.alloc w2 (Obj.cells _ 155) = w3
  have hb3 : Below w2.heap.size w2 w3 := by rw [← hW3]; exact (Below.refl _ _).alloc (Nat.le_refl _) _
  have hX3 : Blk w3 w2.heap.size 155 (comL a (.slice OA t.length oc)) := by rw [← hW3]; exact Blk.new_at (cs := comL a (.slice OA t.length oc)) rfl
  have hb3' := hb2'.out.trans (hb3.mono hb2'.out.size)
  clear hW3 l0 l1 l2 l3 hb3 hb2'
  have hen := encode_first a t _ _ w3 (hO.out.stayB hb3') ha ht
  refine hen.mono ?_
  rintro e w4 ⟨V, rfl, hrow, hb4⟩
  obtain ⟨xs, hxs⟩ : ∃ xs, xs = encS (comT a t) := ⟨_, rfl⟩
  have hxl : xs.length ≤ 100000 := by rw [hxs]; exact enc_len a t ha ht
  have hidx : shaOf xs = idT a t := by rw [hxs]; rfl
  rw [← hxs] at hrow
  replace hxs := Lib.hid hxs
  replace hidx := Lib.hid hidx
  obtain ⟨EA, ec, rfl, hec, _⟩ := own_form hrow
  have hb4' := hb3'.trans (hb4.mono hb3'.size)
  have hX4 := hX3.below hb4 hX3.lt
  have hrd4 : Rd w4 (· < w4.heap.size) EA (xs.map B) := (own_rd hrow).weak (fun b hb _ => hb)
  clear hrow hen hb4 hb3' hX3
  have hR4 := hR.out.below hb4' hR.out.lt
  have h4 := h.out.below hb4'
  replace hb4' := Lib.hid hb4'
  replace hX4 := Lib.hid hX4
  replace hrd4 := Lib.hid hrd4
  replace h4 := Lib.hid h4
  go_wp2_with fail
  obtain ⟨PS, hPS⟩ : ∃ PS : World → Prop, ∀ x, PS x ↔ Below w4.heap.size w4 x := ⟨_, fun _ => Iff.rfl⟩
  have s0 : ∀ s : Cls PS, s.1.cell? ⟨r, 3, none⟩ = some (.pointer (some ⟨g, 0, none⟩)) := fun s => (hR4.below ((hPS _).1 s.2) hR4.lt).cell 3
  have s1 : Hid (∀ w', (∃ s : Cls PS, w' = s.1) → Rd w' (· < w4.heap.size) EA (xs.map B)) := Lib.hid (by rintro _ ⟨s, rfl⟩; exact hrd4.out.stay (fun b _ hlt => ((hPS _).1 s.2).block b hlt) (fun b h _ => h))
  have s4 : PS w4.drew := (hPS _).2 (Below.refl _ _).drew
  haveI : Nonempty (Cls PS) := ⟨⟨_, s4⟩⟩
  replace hPS := Lib.hid hPS
  replace hR4 := Lib.hid hR4
  refine region_seg (fun w' => ∃ s : Cls PS, w' = s.1) [([0, 1, 2, 3, 4, 8, 9], 5), ([], 6)] [7] 10 [11] (by kernel_rfl) (by kernel_rfl) (fun _ d _ _ _ h => by cases d <;> exact h) ⟨⟨_, s4⟩, rfl⟩ ?_
  simp only [wpSeg, pickOps, List.map_cons, List.map_nil, nthOp_zero, nthOp_succ]
  repeat (first | go_big_quiet_step (fail) | (refine wpQuiet_to_string 49 9 (.tmp 49) rfl rfl 5 Tryz.underlying49 Tryz.underlying5 Tryz.underlying9 EA xs ec rfl s1.out ?_; go_frame))
  refine wpQuiet_nil ?_
  intro K hK
  go_simp
  have hK4 : KeysIn w4 := hky.out _ h4.out.bel
  refine (sum_any xs EA ec w4.drew (s1.out _ ⟨⟨_, s4⟩, rfl⟩) (by omega) (by omega) hK4).mono ?_
  rintro e w5 ⟨rfl, hb5⟩
  have hb45 := (Below.refl w4.heap.size w4).drew.trans hb5
  rw [hidx.out]
  refine hK _ _ ⟨⟨_, (hPS.out _).2 hb45⟩, rfl⟩ ?_
  clear hK
  refine wpQuiet_nil ?_
  intro K hK
  go_simp
  refine (hex_any (idT a t) hid w5).mono ?_
  rintro e w6 ⟨rfl, hb6⟩
  have hb46 := hb45.trans (hb6.mono hb45.size)
  refine hK _ _ ⟨⟨_, (hPS.out _).2 hb46⟩, rfl⟩ ?_
  clear hK hb45 hb5 hb6
  obtain ⟨hx, hhx⟩ : ∃ hx, hx = hexOf (idT a t) := ⟨_, rfl⟩
  have hxl2 : hx.length = 64 := by rw [hhx, hexOf_length, hid]
  have hsz : (⟨hx.toArray⟩ : ByteArray).size = 64 := (strLn hx).trans hxl2
  rw [← hhx]
  replace hhx := Lib.hid hhx
  replace hxl2 := Lib.hid hxl2
  repeat (first | go_big_quiet_step (fail))
  refine wpQuiet_nil ?_
  have hcat : ((⟨#[111]⟩ : ByteArray) ++ ⟨hx.toArray⟩) = ⟨(looseN (idT a t)).toArray⟩ := by
    have e : looseN (idT a t) = [111] ++ hx := by rw [hhx.out]; rfl
    rw [e]
    apply ByteArray.ext
    simp
  obtain ⟨hn1, hn2, hn3⟩ := looseN_ok hid
  have hfst := first_write hS (s := looseN (idT a t)) (t := xs) hn1 hn2 (by omega)
  have h6 := h4.out.below hb46
  obtain ⟨L, ⟨bn, bs, pv, hD, hLf⟩, hLb⟩ := h6.disk
  have hwr := dwrite_any g bn bs pv S (looseN (idT a t)) xs w6 hD hfst.asked (by omega) (by omega)
  unfold strV at hwr
  rw [← hcat, hfst.e] at hwr
  have hb6' := hb4'.out.trans (hb46.mono hb4'.out.size)
  have hk6 := KeepsR.below hb6'
  have hR6 := hR.out.below hb6' hR.out.lt
  clear s0 s1 s4 hcat hsz
  replace hfst := Lib.hid hfst
  replace hk6 := Lib.hid hk6
  replace hR6 := Lib.hid hR6
  replace hD := Lib.hid hD
  replace h6 := Lib.hid h6
  replace hLf := Lib.hid hLf
  replace hLb := Lib.hid hLb
  go_wp2_with fail
  refine hwr.mono ?_
  rintro e w7 ⟨rfl, ht7⟩
  have h7 := h6.out.turned hD.out (fun i hi => hLb.out i (by rw [hLf.out]; exact hi)) ht7
  have hk67 : KeepsR w6 w7 := KeepsR.disk hD.out ht7.1
  have hk7 := hk6.out.trans hk67
  have hsz7 : w.heap.size ≤ w7.heap.size := Nat.le_trans hb6'.size ht7.1.size
  have hR7 : Blk w7 r 104 (repoCells nilS by_ rb g a false) := hR6.out.touch ht7.1 (hD.out.tag hR6.out (by decide) (by decide))
  clear hwr hD h6 hLf hLb hR6 hk6 hk67 ht7
  replace h7 := Lib.hid h7
  replace hk7 := Lib.hid hk7
  replace hR7 := Lib.hid hR7
  go_wp2_with fail
  have hmm := @run_makeMap Tryz.prog
  rw [rounds_succ]
  go_wp2_with fail
  generalize hW8 : World.alloc (w7.alloc _) (Obj.cells _ 102) = w8
  have hb8 : Below w7.heap.size w7 w8 := by rw [← hW8]; exact ((Below.refl _ _).alloc (Nat.le_refl _) _).alloc (by simp) _
  have hK8 : Blk w8 (w7.heap.size + 1) 102 [nilS, .map (some w7.heap.size)] := by rw [← hW8]; exact Blk.new_at (cs := [nilS, .map (some w7.heap.size)]) (by simp)
  have hM8 : MapV w8 w7.heap.size [] := by rw [← hW8]; exact (MapV.new_at rfl).alloc _
  have hR8 := hR7.out.below hb8 hR7.out.lt
  have h8 := h7.out.below hb8
  have hk8 := hk7.out.trans (KeepsR.below hb8)
  have hs7 := h7.out.size
  obtain ⟨L7, hD7, hL7⟩ := h7.out.disk
  have hlt7 := hD7.lt
  have hD8 := hD7.below hb8
  clear hD7
  clear hW8 hmm hR7 hk7 h7
  obtain ⟨kb, hkb⟩ : ∃ kb, kb = w7.heap.size + 1 := ⟨_, rfl⟩
  obtain ⟨mb, hmb⟩ : ∃ mb, mb = w7.heap.size := ⟨_, rfl⟩
  rw [← hkb, ← hmb] at hK8 ⊢
  rw [← hmb] at hM8
  have hmb1 : base ≤ mb := by omega
  have hkb1 : base ≤ kb := by omega
  have hmw : w.heap.size ≤ mb := by omega
  have hkm : mb < kb := by omega
  have hlt7' : ∀ i ∈ L7, i < mb := fun i hi => by rw [hmb]; exact hlt7 i hi
  clear hlt7
  replace hlt7' := Lib.hid hlt7'
  replace hL7 := Lib.hid hL7
  have hpn := past_nil r by_ rb g a false _ _ v _ w8 hR8 h8.ref h8.own.tab
  clear hkb hmb hb8 hs7
  refine hpn.mono ?_
  rintro e w9 ⟨rfl, hb9⟩
  have hR9 := hR8.below hb9 hR8.lt
  have hK9 := hK8.below hb9 hK8.lt
  have hM9 := hM8.below hb9 hM8.lt
  have h9 := h8.below hb9
  have hk9 := hk8.trans (KeepsR.below hb9)
  have hF9 := hk9.blk _ _ _ hF.out (by decide) (by decide) (by decide) (by decide)
  have hD9 := hD8.below hb9
  clear hpn hb9 hR8 hK8 hM8 h8 hk8 hD8
  replace hD9 := Lib.hid hD9
  replace hR9 := Lib.hid hR9
  replace hK9 := Lib.hid hK9
  replace hM9 := Lib.hid hM9
  replace h9 := Lib.hid h9
  replace hk9 := Lib.hid hk9
  replace hF9 := Lib.hid hF9
  go_wp2_with (at_builtin; refine wpList_append_rd _ rfl (.tmp 59) (.tmp 60) 100 rfl w9.heap.size 155 _ 4 80 Tryz.underlying100 infoCm nilS 0 [] rfl ⟨rfl, .inl ⟨rfl, rfl⟩⟩ (fun _ => True) (some ⟨fb, 0, none⟩) 1 fc (comL a (.slice OA t.length oc)) rfl rfl (Rd.of_blk (cs := comL a (.slice OA t.length oc) ++ rest) (r := rest) hF9.out rfl trivial) (by simp [comL, Value.oneCell']) (by unfold maxLen; omega) (by omega) (Nat.le_refl _) ?_; intro v' w10 hrow hg hv'; obtain ⟨lb, lc, rest1, rfl, hlb, hL10⟩ := own_one hrow; replace hL10 := Lib.hid hL10; replace hg := Lib.hid hg; clear hrow hv'; go_frame)
  have hb10 : Below w9.heap.size w9 w10 := own_below (v := nilS) (n := 0) (xs := []) (e := 155) (size := 4) ⟨rfl, .inl ⟨rfl, rfl⟩⟩ hg.out (Nat.le_refl _)
  have hR10 := hR9.out.below hb10 hR9.out.lt
  have hK10 := hK9.out.below hb10 hK9.out.lt
  have hM10 := hM9.out.below hb10 hM9.out.lt
  have h10 := h9.out.below hb10
  have hk10 := hk9.out.trans (KeepsR.below hb10)
  have hs9 := h9.out.size
  have hD10 := Lib.hid (hD9.out.below hb10)
  have hlb1 : base ≤ lb := by omega
  have l0 : w10.cell? ⟨lb, 0, none⟩ = some nilS := hL10.out.cell 0
  have l1 : w10.cell? ⟨lb, 1, none⟩ = some (.string ⟨a.toArray⟩) := hL10.out.cell 1
  have l2 : w10.cell? ⟨lb, 2, none⟩ = some (.string ⟨#[]⟩) := hL10.out.cell 2
  have l3 : w10.cell? ⟨lb, 3, none⟩ = some (.slice OA t.length oc) := hL10.out.cell 3
  clear hR9 hK9 hM9 h9 hk9 hF9 hg hb10 hlb
  replace hR10 := Lib.hid hR10
  replace hK10 := Lib.hid hK10
  replace hM10 := Lib.hid hM10
  replace h10 := Lib.hid h10
  replace hk10 := Lib.hid hk10
  refine wp_loop_rounds 2 ?_
  rw [rounds_succ]
  go_wp2_with fail
  generalize hW11 : World.alloc w10 (Obj.cells _ 155) = w11
  have hb11 : Below w10.heap.size w10 w11 := by rw [← hW11]; exact (Below.refl _ _).alloc (Nat.le_refl _) _
  have hX11 : Blk w11 w10.heap.size 155 (comL a (.slice OA t.length oc)) := by rw [← hW11]; exact Blk.new_at (cs := comL a (.slice OA t.length oc)) rfl
  have hR11 := hR10.out.below hb11 hR10.out.lt
  have hK11 := hK10.out.below hb11 hK10.out.lt
  have hM11 := hM10.out.below hb11 hM10.out.lt
  have h11 := h10.out.below hb11
  have hk11 := hk10.out.trans (KeepsR.below hb11)
  have hD11 := hD10.out.below hb11
  have hO11 := hk11.ops hO.out
  have hky11 : KeysIn w11 := hky.out _ h11.bel
  have hs10 := h10.out.size
  clear hW11 l0 l1 l2 l3 hb11 hR10 hK10 hM10 h10 hk10
  obtain ⟨xb, hxb⟩ : ∃ xb, xb = w10.heap.size := ⟨_, rfl⟩
  rw [← hxb] at hX11 ⊢
  have hxb1 : base ≤ xb := by omega
  have hidf := id_first a t _ _ w11 hO11 ha ht hky11
  refine hidf.mono ?_
  rintro e w12 ⟨rfl, hb12⟩
  have hR12 := hR11.below hb12 hR11.lt
  have hK12 := hK11.below hb12 hK11.lt
  have hM12 := hM11.below hb12 hM11.lt
  have hX12 := hX11.below hb12 hX11.lt
  have h12 := h11.below hb12
  have hk12 := hk11.trans (KeepsR.below hb12)
  have hD12 := hD11.below hb12
  clear hD11 hb12 hR11 hK11 hM11 hX11 h11 hk11 hky11 hO11 hidf
  obtain ⟨ds, hds⟩ : ∃ ds, ds = idT a t := ⟨_, rfl⟩
  have hdl : ds.length = 32 := by rw [hds]; exact hid
  rw [← hds]
  replace hds := Lib.hid hds
  replace hdl := Lib.hid hdl
  have hO12 := hk12.ops hO.out
  have hxb12 := hX12.lt
  replace hR12 := Lib.hid hR12
  replace hK12 := Lib.hid hK12
  replace hM12 := Lib.hid hM12
  replace hX12 := Lib.hid hX12
  replace h12 := Lib.hid h12
  replace hk12 := Lib.hid hk12
  replace hD12 := Lib.hid hD12
  replace hO12 := Lib.hid hO12
  replace hxb := Lib.hid hxb
  go_wp2_with (first
    | (refine wpList_store_blk rfl 115 (.tmp 17) (.tmp 70) rfl w12.heap.size (ds.map B) rfl rfl 115 zero32 (Blk.new_at rfl) (by simp [hdl.out, zero32]) (digSz hdl.out) (all_B _) ?_
       generalize hw1 : World.setRow _ w12.heap.size (ds.map B).toArray = w13
       have hD13 : Blk w13 w12.heap.size 115 (ds.map B) := by
         rw [← hw1]
         exact (Blk.new_at (w := w12) (t := 115) (cs := zero32) rfl).setRow_same (ds.map B)
       have hb13 : Below w12.heap.size w12 w13 := by
         rw [← hw1]
         exact below_setRow ((Below.refl w12.heap.size w12).alloc (Nat.le_refl _) (.cells zero32.toArray 115)) (Nat.le_refl _) (ds.map B).toArray
       clear hw1
       replace hD13 := Lib.hid hD13
       replace hb13 := Lib.hid hb13
       go_frame)
    | fail)
  have hb13' := hb13.out
  have hX13 := hX12.out.below hb13' hX12.out.lt
  have hR13 := hR12.out.below hb13' hR12.out.lt
  have hK13 := hK12.out.below hb13' hK12.out.lt
  have hM13 := hM12.out.below hb13' hM12.out.lt
  have h13 := h12.out.below hb13'
  have hk13 := hk12.out.trans (KeepsR.below hb13')
  have hdk13 := hD12.out.below hb13'
  have hO13 := hO12.out.stayB hb13'
  obtain ⟨db, hdb⟩ : ∃ db, db = w12.heap.size := ⟨_, rfl⟩
  have hD13' := hD13.out
  rw [← hdb] at hD13' ⊢
  clear hX12 hR12 hK12 hM12 h12 hk12 hD12 hO12 hb13 hb13' hdb hD13
  obtain ⟨PS, hPS⟩ : ∃ PS : World → Prop, ∀ x, PS x ↔ Blk x db 115 (ds.map B) ∧ Blk x xb 155 (comL a (.slice OA t.length oc)) := ⟨_, fun _ => Iff.rfl⟩
  have s1 : Hid (∀ w', (∃ s : Cls PS, w' = s.1) → Blk w' db 115 (ds.map B)) := Lib.hid (by rintro _ ⟨s, rfl⟩; exact ((hPS _).1 s.2).1)
  have s2 : Hid (∀ w', (∃ s : Cls PS, w' = s.1) → Blk w' xb 155 (comL a (.slice OA t.length oc))) := Lib.hid (by rintro _ ⟨s, rfl⟩; exact ((hPS _).1 s.2).2)
  have s4 : PS w13.drew := (hPS _).2 ⟨hD13'.drew, hX13.drew⟩
  haveI : Nonempty (Cls PS) := ⟨⟨_, s4⟩⟩
  replace hPS := Lib.hid hPS
  refine region_seg (fun w' => ∃ s : Cls PS, w' = s.1) [([0, 1], 2)] [] 3 [] (by kernel_rfl) (by kernel_rfl) (fun _ d _ _ _ h => by cases d <;> exact h) ⟨⟨_, s4⟩, rfl⟩ ?_
  simp only [wpSeg, pickOps, List.map_cons, List.map_nil, nthOp_zero, nthOp_succ]
  repeat (first
    | (refine wpQuiet_load_part 115 (.tmp 17) rfl rfl db 0 rfl 115 (ds.map B) (ds.map B) [] s1.out (by simp) _ Tryz.underlying115 rfl (digSz hdl.out) ?_; go_frame)
    | (refine wpQuiet_load_part 155 (.tmp 16) rfl rfl xb 0 rfl 155 (comL a (.slice OA t.length oc)) (comL a (.slice OA t.length oc)) [] s2.out (by simp) _ Tryz.underlying155 rfl (comSz _ _) ?_; go_frame)
    | go_big_quiet_step (fail))
  refine wpQuiet_nil ?_
  intro K hK
  go_simp
  have hof := own_first a t _ _ w13.drew (hO13.stayB (Below.refl _ _).drew) ht h0
  refine hof.mono ?_
  rintro e w14 ⟨V, rfl, hrow, hb14⟩
  obtain ⟨VA, vc', rfl, _, _⟩ := own_form hrow
  have hb14' : Below w13.heap.size w13 w14 := (Below.refl _ _).drew.trans hb14
  have hdb14 := hD13'.below hb14' hD13'.lt
  have hX14 := hX13.below hb14' hX13.lt
  have hR14 := hR13.below hb14' hR13.lt
  have hK14 := hK13.below hb14' hK13.lt
  have hM14 := hM13.below hb14' hM13.lt
  have h14 := h13.below hb14'
  have hk14 := hk13.trans (KeepsR.below hb14')
  have hD14 := hdk13.below hb14'
  refine hK _ _ ⟨⟨_, (hPS.out _).2 ⟨hdb14, hX14⟩⟩, rfl⟩ ?_
  clear hK
  refine wpQuiet_nil ?_
  clear hof hb14 hb14' hdb14 hX14 hX13 hR13 hK13 hM13 h13 hk13 hdk13 hO13 hD13' s1 s2 s4
  have hka := kadd_first ds a hdl.out VA t.length vc' kb mb w14 hK14 hM14
  replace hK14 := Lib.hid hK14
  replace hM14 := Lib.hid hM14
  replace hR14 := Lib.hid hR14
  replace h14 := Lib.hid h14
  replace hk14 := Lib.hid hk14
  replace hD14 := Lib.hid hD14
  replace hrow := Lib.hid hrow
  go_wp2_with fail
  refine hka.mono ?_
  rintro e w15 ⟨lb', lc', rest', rfl, hK15, hL15, hM15, hlb', ht15⟩
  have hrk : r ≠ kb := hR14.out.ne_ hK14.out (by decide)
  have hrm : r ≠ mb := hM14.out.ne_blk hR14.out
  have hR15 := hR14.out.touch ht15 (by simp [hrk, hrm])
  have hk15 : KeepsR w w15 := ⟨fun k t' cs hB a1 a2 a3 a4 => (hk14.out.blk k t' cs hB a1 a2 a3 a4).touch ht15 (by have := hB.lt; simp; omega), fun k o ho hm => mark_touch ht15 (hk14.out.mark k o ho hm) (by have := lt_of_heap ho; simp; omega)⟩
  have hD15 : DiskIs w15 L7 g _ := hD14.out.touch ht15 (fun i hi => by have := hlt7'.out i hi; simp; omega) (fun i hi cs hB => by
    simp only [List.mem_cons, List.not_mem_nil, or_false] at hi
    rcases hi with rfl | rfl
    · exact absurd (hB.unique hK14.out) (by decide)
    · exact hM14.out.ne_blk hB rfl)
  have h15 : Ref w0 base rb g v _ [] w15 := h14.out.touched hD14.out hL7.out ht15 (by simp; omega) (fun i hi => by have := hlt7'.out i hi; simp; omega) (fun i hi t' cs hB => by
    simp only [List.mem_cons, List.not_mem_nil, or_false] at hi
    rcases hi with rfl | rfl
    · rw [hB.unique hK14.out]; decide
    · exact absurd rfl (hM14.out.ne_blk hB))
  have hO15 := own_ops (own_touch hrow.out ht15 (fun b hb hm => by
    simp only [List.mem_cons, List.not_mem_nil, or_false] at hm
    rcases hm with rfl | rfl
    · exact row_tag hrow.out hK14.out (by decide) hb.symm
    · obtain ⟨cs, hB⟩ := row_cells hrow.out hb
      exact hM14.out.ne_blk hB rfl)) (chain_len t 0)
  have hlb1' : base ≤ lb' := Nat.le_trans h14.out.size hlb'
  clear hka hR14 hk14 hD14 h14 hrow hlb' ht15 hK14 hM14
  replace hR15 := Lib.hid hR15
  replace hk15 := Lib.hid hk15
  replace hD15 := Lib.hid hD15
  replace h15 := Lib.hid h15
  replace hO15 := Lib.hid hO15
  replace hL15 := Lib.hid hL15
  go_wp2_with fail
  have r2 : w15.cell? ⟨r, 2, none⟩ = some (.pointer (some ⟨rb, 0, none⟩)) := hR15.out.cell 2
  rw [rounds_succ]
  go_wp2_with fail
  obtain ⟨bn', bs', pv', hDa, hLe⟩ := hD15.out
  have hfs := hfst.out
  have hC' : ChsIs w (Fr w) (.slice UA 1 uc) (oneC n ds) := by rw [hds.out]; exact hC.out
  have hdo := do_one hn hdl.out h15.out hDa (fun i hi => hL7.out i (by rw [hLe]; exact hi)) hfs.inv hfs.off hfs.fuse hfs.next hfs.len (by rw [hfs.sum, hfs.room]; omega) (hk15.out.chs hC')
  refine hdo.mono ?_
  rintro e w16 ⟨rfl, hkp, ht16, v', S', h16, how⟩
  have how16 := Lib.hid (how.lower (show w.heap.size ≤ w15.heap.size by have := hK15.lt; omega))
  clear how
  have hkpR := KeepsR.names hDa h15.out.ref ht16 hkp
  have hk16 := hk15.out.trans hkpR
  have hni : ∀ i t' cs, Blk w15 i t' cs → t' ≠ 147 → t' ≠ 90 → t' ≠ 145 → i ∉ rb :: foot g bn' bs' pv' := fun i t' cs hB a1 a2 a3 hm => by
    rcases List.mem_cons.1 hm with rfl | hm
    · exact a1 (hB.unique h15.out.ref)
    · exact hDa.tag hB a2 a3 hm
  have hR16 := hR15.out.touch ht16 (hni _ _ _ hR15.out (by decide) (by decide) (by decide))
  have hK16 := hK15.touch ht16 (hni _ _ _ hK15 (by decide) (by decide) (by decide))
  have hL16 := hL15.out.touch ht16 (hni _ _ _ hL15.out (by decide) (by decide) (by decide))
  have hM16 := hM15.touch ht16 (fun hm => by
    rcases List.mem_cons.1 hm with he | hm
    · exact hM15.ne_blk h15.out.ref he.symm
    · have := hlt7'.out _ (by rw [hLe]; exact hm); omega)
  have hO16 := (KeepsR.opb hkpR hO15.out)
  clear hdo hfs hni hC' hDa hLe ht16 hkp hkpR hR15 hK15 hL15 hM15 hO15 hD15 h15 hk15 r2
  replace hk16 := Lib.hid hk16
  replace hR16 := Lib.hid hR16
  replace hL16 := Lib.hid hL16
  replace hM16 := Lib.hid hM16
  replace hO16 := Lib.hid hO16
  replace h16 := Lib.hid h16
  have k0 : w16.cell? ⟨kb, 0, none⟩ = some (.slice (some ⟨lb', 0, none⟩) 1 lc') := hK16.cell 0
  have k1 : w16.cell? ⟨kb, 1, none⟩ = some (.map (some mb)) := hK16.cell 1
  replace hK16 := Lib.hid hK16
  have hkn : (Tryz.prog.info? 102).map (·.size) = some 2 := by kernel_rfl
  replace hkn := Lib.hid hkn
  go_wp2_with (first | (refine wpList_store_part rfl 102 (.tmp 89) (.tmp 87) rfl r 0 [.slice (some ⟨lb', 0, none⟩) 1 lc', .map (some mb)] rfl rfl 104 (repoCells nilS by_ rb g a false) hR16.out (by simp) hkn.out (by simp [Value.oneCell']) ?_) | fail)
  have hsp : splice (repoCells nilS by_ rb g a false) 0 [.slice (some ⟨lb', 0, none⟩) 1 lc', .map (some mb)] = repoCells (.slice (some ⟨lb', 0, none⟩) 1 lc') mb rb g a false := rfl
  rw [hsp]
  have ht17 : Touch [r] w16 (w16.setRow r (repoCells (.slice (some ⟨lb', 0, none⟩) 1 lc') mb rb g a false).toArray) := Touch.setRow (by simp) _
  have hR17 : Blk (w16.setRow r (repoCells (.slice (some ⟨lb', 0, none⟩) 1 lc') mb rb g a false).toArray) r 104 _ := hR16.out.setRow_same (repoCells (.slice (some ⟨lb', 0, none⟩) 1 lc') mb rb g a false)
  generalize w16.setRow r (repoCells (.slice (some ⟨lb', 0, none⟩) 1 lc') mb rb g a false).toArray = w17 at ht17 hR17 ⊢
  obtain ⟨L16, hD16, hLb16⟩ := h16.out.disk
  have hr1 := hR16.out
  have h17 := h16.out.touched hD16 hLb16 ht17 (by simpa using hr) (fun i hi hm => by
    obtain rfl : i = r := by simpa using hm
    exact hD16.tag hr1 (by decide) (by decide) hi) (fun i hi t' cs hB => by
    obtain rfl : i = r := by simpa using hi
    rw [hB.unique hr1]; decide)
  have hkk : KeepsR w16 w17 := KeepsR.one hr1 ht17 rfl
  have hL17 := hkk.blk _ _ _ hL16.out (by decide) (by decide) (by decide) (by decide)
  have hM17 := hM16.out.touch ht17 (by simp; exact fun e => hrm e.symm)
  have hO17 := hkk.opb hO16.out
  have how17 := Lib.hid (how16.out.touch ht17 (fun i hi t' cs hB => by
    obtain rfl : i = r := by simpa using hi
    rw [hB.unique hr1]; decide))
  have hk17 := hk16.out.trans hkk
  clear k0 k1 hr1
  replace hL17 := Lib.hid hL17
  replace hM17 := Lib.hid hM17
  replace hO17 := Lib.hid hO17
  replace hk17 := Lib.hid hk17
  replace hR17 := Lib.hid hR17
  replace h17 := Lib.hid h17
  clear hsp ht17 hD16 hLb16 hkk
  go_wp2_with fail
  go_returns
  rw [← hds.out]
  exact ⟨rfl, hk17.out, lb', lc', rest', mb, _, v', S', hR17.out, hL17.out, hO17.out, hM17.out, h17.out, how17.out, hlb1', hmb1⟩
end Go.Proofs.YtamdhaoglapnnaaGreatDoor
end
