/- Words for the disk's memory: maps of strings, boxes, closures, the disk itself; what a call may touch. -/
import Derived.Test.YtlenmkemjaaaoaaDoorProg
import Derived.Test.YtlenmkemjaaaoaaDoorDkP
import Derived.Test.YtlenmkemjaaaoaaDoorAppend
import Derived.Test.YtlenmkemjaaaoaaDoorBelowQ
import Derived.Maps.OwnOps
import Derived.Sort.OwnSorted
namespace Go.Proofs.YtlenmkemjaaaoaaDoor
open Go.RowKit Go.Maps Go.ChangeMaps Go.WideMaps

/-- A string's value. -/
def strV (s : List UInt8) : Value := .string ⟨s.toArray⟩
theorem strV_enc (s : List UInt8) : strV s = encStr s := rfl
theorem keyed : Keyed Tryd.prog 9 := string_keyed Tryd.underlying9
theorem zeroStr (w : World) : (zeroValue 9).run Tryd.prog w = .ok (strV []) w := by kernel_rfl
theorem keyStr (k : List UInt8) (hk : k.length ≤ maxLen) : keyOf Tryd.prog 9 (strV k) = some (.string k) := by
  have := keyOf_string_mk (P := Tryd.prog) (k := 9) (s := ⟨k.toArray⟩) Tryd.underlying9 (by simpa [ByteArray.size] using hk)
  simpa [strV] using this
theorem elemStr (t : List UInt8) (ht : t.length ≤ maxLen) : plainElem (H := Unit) Tryd.prog 9 (strV t) = some (litS t, []) := by
  have := plainElem_string (H := Unit) (P := Tryd.prog) (e := 9) (s := ⟨t.toArray⟩) Tryd.underlying9 (by simpa [ByteArray.size] using ht)
  simpa [strV, litS] using this
theorem elemStr_inv {v : Value} {z : DM × List MemPlace} (h : plainElem (H := Unit) Tryd.prog 9 v = some z) : ∃ t, v = strV t ∧ z = (litS t, []) ∧ t.length ≤ maxLen := by
  obtain ⟨s, rfl, rfl, hs⟩ := plainElem_string_inv Tryd.underlying9 h
  exact ⟨s.data.toList, by simp [strV], rfl, by rw [Array.length_toList]; exact hs⟩

/-- Block b is a map that reads as D. -/
def MapIs (w : World) (b : Nat) (D : DM) : Prop := w.ownsMap Tryd.prog 9 (plainElem Tryd.prog 9) b (fLen D) D
section
variable {w w' : World} {b n : Nat} {D : DM} {k t : List UInt8}
theorem MapIs.of (h : w.ownsMap Tryd.prog 9 (plainElem Tryd.prog 9) b n D) : MapIs w b D := by
  obtain ⟨es, clock, hb, F, _, rfl⟩ := h
  exact ⟨es, clock, hb, F, by simp [fLen, Maps.size, length_sorted], rfl⟩
theorem MapIs.str (h : MapIs w b D) : StrMap D := by
  obtain ⟨es, rfl, hp, _⟩ := World.ownsMap.entries h keyed
  refine ⟨es, rfl, hp, fun p hm => ?_⟩
  obtain ⟨es', clock, _, F, _, he⟩ := h
  have he' : es = (es'.toList.map (WideElems.rg Tryd.prog 9 (plainElem (H := Unit) Tryd.prog 9))).foldr DataW.insert [] := by injection he
  rw [he'] at hm
  obtain ⟨x, hx, rfl⟩ := List.mem_map.1 (mem_sorted.1 hm)
  obtain ⟨y, hy⟩ := F.reads x hx
  rw [WideElems.rg_of hy]
  obtain ⟨z, hz, he2⟩ := WideElems.rd_val hy
  obtain ⟨t, _, rfl, _⟩ := elemStr_inv hz
  obtain ⟨q, _, hq, _⟩ := Maps.keyOf_str Tryd.underlying9 (WideElems.rd_key hy)
  exact ⟨q, t, by rw [← hq]; exact Prod.ext rfl he2⟩
theorem MapIs.lt (h : MapIs w b D) : b < w.heap.size := World.ownsMap.lt h
theorem MapIs.block (h : MapIs w b D) (hb : w'.heap[b]? = w.heap[b]?) : MapIs w' b D := by
  obtain ⟨es, clock, hb', r⟩ := h
  exact ⟨es, clock, hb.trans hb', r⟩
theorem MapIs.at (h : MapIs w b D) : ∃ es clock, w.heap[b]? = some (.map es clock) := by
  obtain ⟨es, clock, hb', r⟩ := h
  exact ⟨es, clock, hb'⟩
theorem MapIs.val (k : List UInt8) {v : Value} {ps : List MemPlace} (hv : plainElem (H := Unit) Tryd.prog 9 v = some (D.atKey (.string k) (litS []), ps)) : v = strV (fS D k) := by
  obtain ⟨t, rfl, he, _⟩ := elemStr_inv hv
  simp only [Prod.mk.injEq] at he
  unfold fS
  rw [he.1]
  rfl
/-- 'v, ok := m[k]'. -/
theorem MapIs.look (h : MapIs w b D) (hk : k.length ≤ maxLen) : (Instr.lookup 72 (.map (some b)) (strV k) true).run Tryd.prog w = .ok (.tuple #[strV (fS D k), .bool (fHas D k)]) w := by
  obtain ⟨v, ps, hr, hv⟩ := World.ownsMap.look_ok h keyed Tryd.underlying72 (zeroStr w) (elemStr [] (Nat.zero_le _)) (keyStr k hk)
  rw [hr, MapIs.val k hv]
  rfl
theorem MapIs.text_le (h : MapIs w b D) (hk : k.length ≤ maxLen) : (fS D k).length ≤ maxLen := by
  obtain ⟨v, ps, hr, hv⟩ := World.ownsMap.look_ok h keyed Tryd.underlying72 (zeroStr w) (elemStr [] (Nat.zero_le _)) (keyStr k hk)
  obtain ⟨t, rfl, he, ht⟩ := elemStr_inv hv
  simp only [Prod.mk.injEq] at he
  unfold fS
  rw [he.1]
  exact ht
theorem MapIs.len (h : MapIs w b D) (ty : TypeId) : (Builtin.len_ #[72] ty #[.map (some b)]).run Tryd.prog w = .ok (.int .i64 (fLen D)) w :=
  World.ownsMap.len h Tryd.underlying72 ty
/-- 'm[k] = t'. -/
theorem MapIs.put (h : MapIs w b D) (hn : fLen D < maxLen) (hk : k.length ≤ maxLen) (ht : t.length ≤ maxLen) :
    ∃ w', (Instr.mapUpdate 72 (.map (some b)) (strV k) (strV t)).run Tryd.prog w = .ok () w' ∧ MapIs w' b (fPut D k t) ∧ w.mapTurned w' b := by
  obtain ⟨w', hr, ho, hm⟩ := World.ownsMap.store h keyed Tryd.underlying72 hn (keyStr k hk) (elemStr t ht)
  exact ⟨w', hr, MapIs.of ho, hm⟩
end

/-- w' is w but for the blocks of L, and new ones. -/
structure Touch (L : List Nat) (w w' : World) : Prop where
  os : w'.os = w.os
  tape : w'.tape = w.tape
  output : w'.output = w.output
  size : w.heap.size ≤ w'.heap.size
  block : ∀ i, i < w.heap.size → i ∉ L → w'.heap[i]? = w.heap[i]?
section
variable {L L' : List Nat} {w w1 w' : World}
theorem Touch.refl (L : List Nat) (w : World) : Touch L w w := ⟨rfl, rfl, rfl, Nat.le_refl _, fun _ _ _ => rfl⟩
theorem Touch.trans (h : Touch L w w1) (h' : Touch L' w1 w') (hL : ∀ i ∈ L', i ∈ L ∨ w.heap.size ≤ i) : Touch L w w' :=
  ⟨h'.os.trans h.os, h'.tape.trans h.tape, h'.output.trans h.output, Nat.le_trans h.size h'.size, fun i hi hn => (h'.block i (Nat.lt_of_lt_of_le hi h.size) (fun hm => by
    rcases hL i hm with h1 | h1
    · exact hn h1
    · omega)).trans (h.block i hi hn)⟩
theorem Touch.mono (h : Touch L w w') (hL : ∀ i ∈ L, i ∈ L' ∨ w.heap.size ≤ i) : Touch L' w w' := ⟨h.os, h.tape, h.output, h.size, fun i hi hn => h.block i hi (fun hm => by
  rcases hL i hm with h1 | h1
  · exact hn h1
  · omega)⟩
theorem Touch.grown {row : Option Nat} (h : w.grownBy w' row) (hr : ∀ b, row = some b → b ∈ L) : Touch L w w' :=
  ⟨h.os, h.tape, h.output, h.size, fun i hi hn => h.block i hi (fun e => hn (hr i e.symm))⟩
theorem Touch.ofBelow (h : Below w.heap.size w w') : Touch L w w' := ⟨h.os, h.tape, h.output, h.size, fun i hi _ => h.block i hi⟩
theorem Touch.below {B : Nat} (h : Touch L w w') (hB : B ≤ w.heap.size) (hL : ∀ i ∈ L, B ≤ i) : Below B w w' :=
  ⟨h.os, h.tape, h.output, h.size, fun i hi => h.block i (Nat.lt_of_lt_of_le hi hB) (fun hm => by have := hL i hm; omega)⟩
theorem Touch.drewN (n : Nat) : Touch L w (w.drewN n) := ⟨rfl, rfl, rfl, Nat.le_refl _, fun _ _ _ => rfl⟩
theorem Touch.setCell {g i : Nat} (u : Value) (hg : g ∈ L) : Touch L w (w.setCell ⟨g, i, none⟩ u) :=
  ⟨rfl, rfl, rfl, by simp, fun k _ hn => Below.heap_setCell w ⟨g, i, none⟩ u k (fun e => hn (by have : k = g := e; rw [this]; exact hg))⟩
theorem Touch.alloc (o : Obj) : Touch L w (w.alloc o) := Touch.grown (World.grownBy_alloc w o none) (by simp)
theorem Blk.touch {g : Nat} {t : TypeId} {cs : List Value} (h : Blk w g t cs) (ht : Touch L w w') (hg : g ∉ L) : Blk w' g t cs := (ht.block g h.lt hg).trans h
theorem MapIs.touch {b : Nat} {D : DM} (h : MapIs w b D) (ht : Touch L w w') (hg : b ∉ L) : MapIs w' b D := h.block (ht.block b h.lt hg)
theorem own_touch {base : Nat} {e : TypeId} {size : Nat} {v : Value} {n : Nat} {xs : List Value} (h : w.ownsRow base e size v n xs) (ht : Touch L w w') (hv : ∀ b, v.ownBlock = some b → b ∉ L) : w'.ownsRow base e size v n xs := by
  obtain ⟨h1, h2⟩ := h
  refine ⟨h1, ?_⟩
  rcases h2 with h2 | ⟨g, cap, cur, rfl, hb, hg, r⟩
  · exact .inl h2
  · have hlt : g < w.heap.size := (Array.getElem?_eq_some_iff.1 hg).1
    exact .inr ⟨g, cap, cur, rfl, hb, (ht.block g hlt (hv g rfl)).trans hg, r⟩
end

/-- A closure that does a pending call. -/
def OpIs (w : World) : DOp → Value → Prop
  | .write s t, v => ∃ a b, v = .func (.func 86) #[] #[.pointer (some ⟨a, 0, none⟩), .pointer (some ⟨b, 0, none⟩)] ∧ Blk w a 9 [strV t] ∧ Blk w b 9 [strV s]
  | .remove s, v => ∃ a, v = .func (.func 85) #[] #[.pointer (some ⟨a, 0, none⟩)] ∧ Blk w a 9 [strV s]
  | .rename s t, v => ∃ a b, v = .func (.func 87) #[] #[.pointer (some ⟨a, 0, none⟩), .pointer (some ⟨b, 0, none⟩)] ∧ Blk w a 9 [strV s] ∧ Blk w b 9 [strV t]
/-- No block of L is a box of a string. -/
def NoBox (w : World) (L : List Nat) : Prop := ∀ i ∈ L, ∀ cs, ¬ Blk w i 9 cs
theorem OpIs.touch {w w' : World} {L : List Nat} {o : DOp} {v : Value} (h : OpIs w o v) (ht : Touch L w w') (hL : NoBox w L) : OpIs w' o v := by
  cases o with
  | write s t =>
    obtain ⟨a, b, e, h1, h2⟩ := h
    exact ⟨a, b, e, h1.touch ht (fun hm => hL a hm _ h1), h2.touch ht (fun hm => hL b hm _ h2)⟩
  | remove s =>
    obtain ⟨a, e, h1⟩ := h
    exact ⟨a, e, h1.touch ht (fun hm => hL a hm _ h1)⟩
  | rename s t =>
    obtain ⟨a, b, e, h1, h2⟩ := h
    exact ⟨a, b, e, h1.touch ht (fun hm => hL a hm _ h1), h2.touch ht (fun hm => hL b hm _ h2)⟩
theorem OpIs.one {w : World} {o : DOp} {v : Value} (h : OpIs w o v) : v.oneCell' = true := by
  cases o with
  | write s t => obtain ⟨a, b, rfl, _⟩ := h; rfl
  | remove s => obtain ⟨a, rfl, _⟩ := h; rfl
  | rename s t => obtain ⟨a, b, rfl, _⟩ := h; rfl
/-- The values hold the calls, one by one. -/
def OpsAre (w : World) (os : List DOp) (vs : List Value) : Prop := os.length = vs.length ∧ ∀ (i : Nat) o v, os[i]? = some o → vs[i]? = some v → OpIs w o v
theorem OpsAre.touch {w w' : World} {L : List Nat} {os : List DOp} {vs : List Value} (h : OpsAre w os vs) (ht : Touch L w w') (hL : NoBox w L) : OpsAre w' os vs :=
  ⟨h.1, fun i o v ho hv => (h.2 i o v ho hv).touch ht hL⟩
theorem OpsAre.snoc {w : World} {os : List DOp} {vs : List Value} {o : DOp} {v : Value} (h : OpsAre w os vs) (ho : OpIs w o v) : OpsAre w (os ++ [o]) (vs ++ [v]) := by
  refine ⟨by simp [h.1], fun i o' v' h1 h2 => ?_⟩
  by_cases hi : i < os.length
  · rw [List.getElem?_append_left hi] at h1
    rw [List.getElem?_append_left (h.1 ▸ hi)] at h2
    exact h.2 i o' v' h1 h2
  · rw [List.getElem?_append_right (by omega)] at h1
    rw [List.getElem?_append_right (by have := h.1; omega)] at h2
    have hl : i = os.length := by
      have := (List.getElem?_eq_some_iff.1 h1).1
      simp at this
      omega
    subst hl
    simp only [Nat.sub_self, List.getElem?_cons_zero, Option.some.injEq] at h1
    rw [h.1] at h2
    simp only [Nat.sub_self, List.getElem?_cons_zero, Option.some.injEq] at h2
    subst h1; subst h2
    exact ho

def dCells (bn bs : Nat) (v : Value) (S : DS) : List Value := [.map (some bn), .map (some bs), v, .int .i64 S.room, .int .i64 S.fuse, .bool S.off]
/-- A disk in memory: its struct in block g, its maps, its row of pending calls. -/
structure DiskAt (w : World) (g bn bs : Nat) (v : Value) (S : DS) : Prop where
  blk : Blk w g 75 (dCells bn bs v S)
  now : MapIs w bn S.now
  sure : MapIs w bs S.sure
  ne : bn ≠ bs
  row : ∃ vs, w.ownsRow 0 120 1 v S.pend.length vs ∧ OpsAre w S.pend vs
def foot (g bn bs : Nat) (v : Value) : List Nat := g :: bn :: bs :: v.ownBlock.toList
def DiskIs (w : World) (L : List Nat) (g : Nat) (S : DS) : Prop := ∃ bn bs v, DiskAt w g bn bs v S ∧ L = foot g bn bs v
/-- .. behind a call. -/
def Turned (w : World) (L : List Nat) (g : Nat) (S : DS) (w' : World) : Prop := Touch L w w' ∧ ∃ L', DiskIs w' L' g S ∧ ∀ i ∈ L', i ∈ L ∨ w.heap.size ≤ i
section
variable {w w' : World} {L M : List Nat} {g bn bs : Nat} {v : Value} {S S' : DS}
theorem DiskAt.mem_foot {i : Nat} (hi : i ∈ foot g bn bs v) : i = g ∨ i = bn ∨ i = bs ∨ v.ownBlock = some i := by
  simp only [foot, List.mem_cons, Option.mem_toList] at hi
  exact hi
/-- A block of another kind is none of the disk's. -/
theorem DiskAt.tag (h : DiskAt w g bn bs v S) {b : Nat} {t : TypeId} {cs : List Value} (hB : Blk w b t cs) (h1 : t ≠ 75) (h2 : t ≠ 120) : b ∉ foot g bn bs v := by
  intro hm
  rcases DiskAt.mem_foot hm with rfl | rfl | rfl | e
  · exact hB.ne_ h.blk h1 rfl
  · obtain ⟨es, c, he⟩ := h.now.at
    unfold Blk at hB; rw [he] at hB; cases hB
  · obtain ⟨es, c, he⟩ := h.sure.at
    unfold Blk at hB; rw [he] at hB; cases hB
  · obtain ⟨vs, ho, _⟩ := h.row
    rcases ho.2 with ⟨rfl, _⟩ | ⟨g', cap, cur, rfl, _, hg, _⟩
    · cases e
    · have : g' = b := by simpa [Value.ownBlock] using e
      subst this
      unfold Blk at hB
      rw [hg] at hB
      injection hB with hB
      injection hB with _ ht
      exact h2 ht.symm
theorem DiskIs.tag (h : DiskIs w L g S) {b : Nat} {t : TypeId} {cs : List Value} (hB : Blk w b t cs) (h1 : t ≠ 75) (h2 : t ≠ 120) : b ∉ L := by
  obtain ⟨bn, bs, v, hd, rfl⟩ := h
  exact hd.tag hB h1 h2
theorem DiskAt.noBox (h : DiskAt w g bn bs v S) : NoBox w (foot g bn bs v) := fun i hi cs hB => h.tag hB (by decide) (by decide) hi
theorem DiskIs.noBox (h : DiskIs w L g S) : NoBox w L := by
  obtain ⟨bn, bs, v, hd, rfl⟩ := h
  exact hd.noBox
theorem DiskAt.lt (h : DiskAt w g bn bs v S) : ∀ i ∈ foot g bn bs v, i < w.heap.size := by
  intro i hi
  rcases DiskAt.mem_foot hi with rfl | rfl | rfl | e
  · exact h.blk.lt
  · exact h.now.lt
  · exact h.sure.lt
  · obtain ⟨vs, ho, _⟩ := h.row
    exact (ho.lt i e).2
theorem DiskIs.lt (h : DiskIs w L g S) : ∀ i ∈ L, i < w.heap.size := by
  obtain ⟨bn, bs, v, hd, rfl⟩ := h
  exact hd.lt
theorem DiskIs.mem (h : DiskIs w L g S) : g ∈ L := by
  obtain ⟨bn, bs, v, hd, rfl⟩ := h
  simp [foot]
/-- What others touch leaves the disk as it is. -/
theorem DiskAt.touch (h : DiskAt w g bn bs v S) (ht : Touch M w w') (hd : ∀ i ∈ foot g bn bs v, i ∉ M) (hb : NoBox w M) : DiskAt w' g bn bs v S := by
  refine ⟨h.blk.touch ht (hd g (by simp [foot])), h.now.touch ht (hd bn (by simp [foot])), h.sure.touch ht (hd bs (by simp [foot])), h.ne, ?_⟩
  obtain ⟨vs, ho, hop⟩ := h.row
  exact ⟨vs, own_touch ho ht (fun b hb' => hd b (by simp [foot, hb'])), hop.touch ht hb⟩
theorem DiskIs.touch (h : DiskIs w L g S) (ht : Touch M w w') (hd : ∀ i ∈ L, i ∉ M) (hb : NoBox w M) : DiskIs w' L g S := by
  obtain ⟨bn, bs, v, h1, rfl⟩ := h
  exact ⟨bn, bs, v, h1.touch ht hd hb, rfl⟩
theorem DiskIs.below (h : DiskIs w L g S) (hb : Below w.heap.size w w') : DiskIs w' L g S := h.touch (M := []) (Touch.ofBelow hb) (by simp) (by simp [NoBox])
theorem DiskAt.below (h : DiskAt w g bn bs v S) (hb : Below w.heap.size w w') : DiskAt w' g bn bs v S := h.touch (M := []) (Touch.ofBelow hb) (by simp) (by simp [NoBox])
theorem Turned.same (h : DiskIs w L g S) (hb : Below w.heap.size w w') : Turned w L g S w' := ⟨Touch.ofBelow hb, L, h.below hb, fun _ hi => .inl hi⟩
theorem Turned.then {w1 : World} (h : Touch L w w1) (hs : ∀ i ∈ M, i ∈ L ∨ w.heap.size ≤ i) (h' : Turned w1 M g S w') : Turned w L g S w' := by
  obtain ⟨ht, L', hd, hL⟩ := h'
  refine ⟨h.trans ht hs, L', hd, fun i hi => ?_⟩
  rcases hL i hi with h1 | h1
  · exact hs i h1
  · exact .inr (Nat.le_trans h.size h1)
end
section
variable {P : Program} (w : World)
theorem run_neq_map_nil (t k e : TypeId) (p : Option Nat) (h : P.underlying t = some (.map k e)) : (binOp .neq t (.map p) (.map none)).run P w = .ok (.bool (!p.isNone)) w := by
  simp only [binOp]
  have h1 : ∀ d, (Op.equalIn (d + 1) t (.map p) (.map none)).run P w = .ok p.isNone w := fun d => by cases p <;> simp [Op.equalIn, run_underlying h]
  simp [show Op.equal t (.map p) (.map none) = Op.equalIn (9999 + 1) t (.map p) (.map none) from rfl, h1 9999]
end
end Go.Proofs.YtlenmkemjaaaoaaDoor
