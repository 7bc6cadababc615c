/- Joined: DkP, DkW. -/
import Derived.Maps.OwnSet
import Derived.Maps.Ext
import Derived.Maps.StringElems
import Derived.Sort.KeysCollected
import Derived.Test.YtlenmkemjaaaoaaDoorProg
import Derived.Test.YtlenmkemjaaaoaaDoorBa
import Derived.Maps.OwnOps
import Derived.Sort.OwnSorted
section
/- The disk as plain data: files by names, what calls do with them, what a crash leaves. -/
namespace Go.Proofs.YtlenmkemjaaaoaaDoor
open Go.Maps

/-- Files by names, as a map's datum. -/
abbrev DM := DataW Unit
def strD : DM → List UInt8
  | .lit (.string s) => s
  | _ => []
def litS (t : List UInt8) : DM := .lit (.string t)
def fHas (D : DM) (k : List UInt8) : Bool := Maps.has D (.string k)
def fS (D : DM) (k : List UInt8) : List UInt8 := strD (D.atKey (.string k) (litS []))
def fPut (D : DM) (k t : List UInt8) : DM := D.put (.string k) (litS t)
def fDel (D : DM) (k : List UInt8) : DM := D.del (.string k)
def fLen (D : DM) : Nat := Maps.size D
def fEs : DM → List (Lit × DM)
  | .map es => es
  | _ => []
def lenD (p : Lit × DM) : Nat := (strD p.2).length
def fSum (D : DM) : Nat := ((fEs D).map lenD).sum
def fNames (D : DM) : List (List UInt8) := (strKeys D).mergeSort leB
def fFiles (D : DM) : List (List UInt8 × List UInt8) := (fNames D).map fun k => (k, fS D k)
def fNil : DM := .map []
/-- What the datum of a map of strings is. -/
def StrMap (D : DM) : Prop := ∃ es, D = .map es ∧ es.Pairwise (fun p q => p.1 ≠ q.1) ∧ ∀ p ∈ es, ∃ k v : List UInt8, p = (.string k, litS v)

theorem StrMap.nil : StrMap fNil := ⟨[], rfl, List.Pairwise.nil, by simp⟩
theorem StrMap.tidy {D : DM} (h : StrMap D) : Tidy D := by obtain ⟨es, rfl, hp, _⟩ := h; exact ⟨es, rfl, hp⟩
theorem StrMap.isMap {D : DM} (h : StrMap D) : IsMap D := h.tidy.isMap
theorem keyLit (k : List UInt8) : WideAt.IsKeyLit (.string k) := trivial
theorem StrMap.put {D : DM} (h : StrMap D) (k t : List UInt8) : StrMap (fPut D k t) := by
  have ht := h.tidy.put (keyLit k) (litS t)
  obtain ⟨es, rfl, hp, hs⟩ := h
  obtain ⟨es', he, hp'⟩ := ht
  refine ⟨es', he, hp', fun p hm => ?_⟩
  simp only [DataW.put, DataW.map.injEq] at he
  rw [← he] at hm
  have hmem : ∀ (l : List (Lit × DM)) (x p), p ∈ DataW.insert x l → p = x ∨ p ∈ l := by
    intro l x p
    induction l with
    | nil => intro h; simp only [DataW.insert, List.mem_singleton] at h; exact .inl h
    | cons y r ih =>
      unfold DataW.insert
      split
      · intro h; simpa using h
      · intro h
        rcases List.mem_cons.1 h with h | h
        · exact .inr (by simp [h])
        · rcases ih h with h | h
          · exact .inl h
          · exact .inr (by simp [h])
  rcases hmem _ _ _ hm with h | h
  · exact ⟨k, t, h⟩
  · exact hs p (List.mem_filter.1 h).1
theorem StrMap.del {D : DM} (h : StrMap D) (k : List UInt8) : StrMap (fDel D k) := by
  obtain ⟨es, rfl, hp, hs⟩ := h
  exact ⟨_, rfl, hp.filter _, fun p hm => hs p (List.mem_filter.1 hm).1⟩

theorem sum_insert (f : Lit × DM → Nat) (x : Lit × DM) : ∀ l : List (Lit × DM), ((DataW.insert x l).map f).sum = f x + (l.map f).sum
  | [] => by simp [DataW.insert]
  | y :: r => by
    unfold DataW.insert
    split
    · simp
    · simp only [List.map_cons, List.sum_cons, sum_insert f x r]; omega
theorem strike_none (k : Lit) : ∀ l : List (Lit × DM), (∀ p ∈ l, p.1 ≠ k) → (l.filter fun p => !p.1.sameKey k) = l := fun l h => by
  rw [List.filter_eq_self]
  intro p hp
  rw [sameKey_ne (h p hp)]; rfl
def hitS (l : List (Lit × DM)) (k : Lit) : DM := match l.find? (fun p => p.1.sameKey k) with | some p => p.2 | none => litS []
theorem sum_strike (k : Lit) : ∀ l : List (Lit × DM), l.Pairwise (fun p q => p.1 ≠ q.1) →
    ((l.filter fun p => !p.1.sameKey k).map lenD).sum + (strD (hitS l k)).length = (l.map lenD).sum
  | [], _ => by simp [strD, litS, hitS]
  | p :: r, h => by
    obtain ⟨h1, h2⟩ := List.pairwise_cons.1 h
    cases hs : p.1.sameKey k with
    | true =>
      have he := WideAt.sameKey_eq hs
      have hr := strike_none k r (fun q hq e => h1 q hq (by rw [he, e]))
      rw [List.filter_cons_of_neg (by simp [hs]), hr]
      simp only [hitS, List.find?_cons_of_pos (p := fun p : Lit × DM => p.1.sameKey k) (by simpa using hs), lenD, List.map_cons, List.sum_cons]
      omega
    | false =>
      rw [List.filter_cons_of_pos (by simp [hs])]
      have := sum_strike k r h2
      have e : hitS (p :: r) k = hitS r k := by simp only [hitS, List.find?_cons_of_neg (p := fun p : Lit × DM => p.1.sameKey k) (a := p) (l := r) (by simp [hs])]
      rw [e]
      simp only [List.map_cons, List.sum_cons]
      omega
theorem fS_map (es : List (Lit × DM)) (k : List UInt8) : fS (.map es) k = strD (hitS es (.string k)) := by
  simp only [fS, hitS, DataW.atKey]
  cases es.find? (fun p => p.1.sameKey (.string k)) <;> rfl
theorem fSum_put {D : DM} (h : StrMap D) (k t : List UInt8) : fSum (fPut D k t) + (fS D k).length = fSum D + t.length := by
  obtain ⟨es, rfl, hp, _⟩ := h
  have h1 := sum_strike (.string k) es hp
  have h2 : fSum (fPut (.map es) k t) = t.length + ((es.filter fun p => !p.1.sameKey (.string k)).map lenD).sum := by
    simp only [fSum, fPut, DataW.put, fEs, sum_insert]
    rfl
  have h4 : fSum (.map es) = (es.map lenD).sum := rfl
  rw [h2, fS_map, h4]
  rw [Nat.add_assoc, h1, Nat.add_comm]
theorem fSum_del {D : DM} (h : StrMap D) (k : List UInt8) : fSum (fDel D k) + (fS D k).length = fSum D := by
  obtain ⟨es, rfl, hp, _⟩ := h
  rw [fS_map]
  exact sum_strike (.string k) es hp
theorem ne_lit {a b : List UInt8} (h : a ≠ b) : (Lit.string a) ≠ .string b := fun e => h (by injection e)
section
variable {D : DM} {k k' t : List UInt8}
theorem fHas_put_same (h : StrMap D) : fHas (fPut D k t) k = true := has_put_same h.isMap (keyLit k) _
theorem fHas_put_other (hne : k' ≠ k) : fHas (fPut D k t) k' = fHas D k' := has_put_other (ne_lit hne) _
theorem fS_put_same (h : StrMap D) : fS (fPut D k t) k = t := by
  unfold fS fPut; rw [atKey_put_same h.isMap (keyLit k)]; rfl
theorem fS_put_other (hne : k' ≠ k) : fS (fPut D k t) k' = fS D k' := by
  unfold fS fPut; rw [atKey_put_other (ne_lit hne)]
theorem fHas_del_same : fHas (fDel D k) k = false := has_del_same
theorem fHas_del_other (hne : k' ≠ k) : fHas (fDel D k) k' = fHas D k' := has_del_other (ne_lit hne)
theorem fS_del_same : fS (fDel D k) k = [] := by unfold fS fDel; rw [atKey_del_same]; rfl
theorem fS_del_other (hne : k' ≠ k) : fS (fDel D k) k' = fS D k' := by unfold fS fDel; rw [atKey_del_other (ne_lit hne)]
theorem fS_none (h : fHas D k = false) : fS D k = [] := by unfold fS; rw [atKey_of_not_has h]; rfl
theorem fLen_put (h : StrMap D) : fLen (fPut D k t) = if fHas D k then fLen D else fLen D + 1 := size_put h.tidy _
theorem fLen_del (h : StrMap D) : fLen (fDel D k) + (if fHas D k then 1 else 0) = fLen D := size_del h.tidy
theorem fLen_put_le (h : StrMap D) : fLen (fPut D k t) ≤ fLen D + 1 := by rw [fLen_put h]; split <;> omega
theorem fLen_del_le (h : StrMap D) : fLen (fDel D k) ≤ fLen D := by have := fLen_del (k := k) h; omega
end
/-- The entries' texts, by name. -/
theorem fS_of_mem {D : DM} {es : List (Lit × DM)} (hD : D = .map es) (hp : es.Pairwise (fun p q => p.1 ≠ q.1)) {k v : List UInt8} (hm : (Lit.string k, litS v) ∈ es) : fS D k = v := by
  subst hD
  have : es.find? (fun p => p.1.sameKey (.string k)) = some (.string k, litS v) := by
    induction es with
    | nil => cases hm
    | cons x r ih =>
      obtain ⟨h1, h2⟩ := List.pairwise_cons.1 hp
      rcases List.mem_cons.1 hm with e | hm'
      · subst e
        rw [List.find?_cons_of_pos (by simp [Lit.sameKey])]
      · have hne : x.1 ≠ .string k := fun e => h1 _ hm' e
        rw [List.find?_cons_of_neg (by simp [sameKey_ne hne])]
        exact ih h2 hm'
  unfold fS DataW.atKey
  simp only [this]
  rfl
theorem keys_sum {D : DM} (h : StrMap D) : ((strKeys D).map fun k => (fS D k).length).sum = fSum D := by
  obtain ⟨es, hD, hp, hs⟩ := h
  have h1 : strKeys D = es.map fun p => strOf p.1 := by rw [hD]; rfl
  have h2 : fSum D = (es.map lenD).sum := by rw [hD]; rfl
  rw [h1, h2, List.map_map]
  congr 1
  apply List.map_congr_left
  intro p hm
  obtain ⟨k, v, rfl⟩ := hs p hm
  show (fS D k).length = v.length
  rw [fS_of_mem hD hp hm]
theorem names_perm (D : DM) : (fNames D).Perm (strKeys D) := List.mergeSort_perm _ _
theorem names_len (D : DM) : (fNames D).length = fLen D := by
  rw [(names_perm D).length_eq]
  cases D <;> simp [strKeys, fLen, Maps.size]
theorem names_sum {D : DM} (h : StrMap D) : ((fFiles D).map fun p => p.2.length).sum = fSum D := by
  rw [← keys_sum h]
  unfold fFiles
  rw [List.map_map]
  exact ((names_perm D).map _).sum_nat
theorem names_has {D : DM} {k : List UInt8} (h : StrMap D) (hm : k ∈ fNames D) : fHas D k = true := by
  have := (names_perm D).mem_iff.1 hm
  obtain ⟨es, rfl, hp, hs⟩ := h
  obtain ⟨p, hp', he⟩ := List.mem_map.1 this
  obtain ⟨k', v, rfl⟩ := hs p hp'
  have : k' = k := he
  subst this
  unfold fHas
  rw [has_eq, List.any_eq_true]
  exact ⟨_, hp', by simp [Lit.sameKey]⟩
theorem files_fst (D : DM) (i : Nat) (h : i < (fFiles D).length) : (fFiles D)[i].1 ∈ fNames D := by
  simp [fFiles]
theorem files_len (D : DM) : (fFiles D).length = fLen D := by simp [fFiles, names_len]

/-! ### the calls -/
/-- A pending call. -/
inductive DOp where
  | write (s t : List UInt8)
  | remove (s : List UInt8)
  | rename (s t : List UInt8)
def cutT (t : List UInt8) (k : Int) : List UInt8 := if 1 < k then t.take ((k - 2) % ((t.length : Int) + 1)).toNat else t
def DOp.act : DOp → Int → DM → DM
  | .write s t, k, D => fPut D s (cutT t k)
  | .remove s, _, D => fDel D s
  | .rename s t, _, D => if fHas D s then fPut (fDel D s) t (fS D s) else D
def DOp.ok : DOp → Prop
  | .write s t => s.length ≤ 80 ∧ t.length ≤ 16777216
  | .remove s => s.length ≤ 80
  | .rename s t => s.length ≤ 80 ∧ t.length ≤ 80
theorem DOp.act_str {D : DM} (h : StrMap D) (o : DOp) (k : Int) : StrMap (o.act k D) := by
  cases o with
  | write s t => exact h.put _ _
  | remove s => exact h.del _
  | rename s t =>
    simp only [DOp.act]
    split
    · exact (h.del _).put _ _
    · exact h
theorem DOp.act_len {D : DM} (h : StrMap D) (o : DOp) (k : Int) : fLen (o.act k D) ≤ fLen D + 1 := by
  cases o with
  | write s t => exact fLen_put_le h
  | remove s => exact Nat.le_succ_of_le (fLen_del_le h)
  | rename s t =>
    simp only [DOp.act]
    split
    · have h1 := fLen_put_le (k := t) (t := fS D s) (h.del s)
      have h2 := fLen_del_le (k := s) h
      omega
    · omega
theorem rename_len {D : DM} (h : StrMap D) (s t : List UInt8) (hs : fHas D s = true) : fLen (fPut (fDel D s) t (fS D s)) ≤ fLen D := by
  have h1 := fLen_put_le (k := t) (t := fS D s) (h.del s)
  have h2 := fLen_del (k := s) h
  rw [hs] at h2
  simp at h2
  omega

/-- A disk. -/
structure DS where
  now : DM
  sure : DM
  pend : List DOp
  room : Int
  fuse : Int
  off : Bool
def nameB (s : List UInt8) : Bool := decide (1 ≤ s.length) && decide (s.length ≤ 80)
def DS.tick (S : DS) : DS := if S.off then S else { S with off := decide (S.fuse = 0), fuse := max (S.fuse - 1) (-1) }
/-- What the power says. -/
def DS.powE (S : DS) : Int := if S.tick.off then 15 else 0
def DS.powR (S : DS) : Int := if S.off then 15 else 0
def DS.does (S : DS) (o : DOp) : DS := { S with now := o.act 1 S.now, pend := S.pend ++ [o] }
def fullB (S : DS) (s t : List UInt8) : Bool := decide (S.room - (t.length : Int) < (fSum S.now : Int) - ((fS S.now s).length : Int)) || decide (600 < fLen S.now + (if fHas S.now s then 0 else 1))
/-- A writing call. -/
inductive Call where
  | write (s t : List UInt8)
  | remove (s : List UInt8)
  | rename (s t : List UInt8)
  | sync
/-- What is wrong with a call, the power let aside. -/
def Call.err (S : DS) : Call → Int
  | .write s t => if nameB s then (if fullB S s t then 14 else 0) else 11
  | .remove s => if nameB s then (if fHas S.now s then 0 else 5) else 11
  | .rename s t => if nameB s && nameB t then (if fHas S.now s then 0 else 5) else 11
  | .sync => 0
def Call.done (S : DS) : Call → DS
  | .write s t => S.does (.write s t)
  | .remove s => S.does (.remove s)
  | .rename s t => S.does (.rename s t)
  | .sync => { S with sure := S.now, pend := [] }
def Call.errno (c : Call) (S : DS) : Int := if S.tick.off then 15 else c.err S.tick
def Call.turn (c : Call) (S : DS) : DS := if S.tick.off then S.tick else if c.err S.tick = 0 then c.done S.tick else S.tick
def choice (l : List Int) (i : Nat) : Int := l.getD i 0
def crashTo : List DOp → List Int → DM → DM
  | [], _, D => D
  | o :: os, l, D => crashTo os l.tail (if 0 < l.headD 0 then o.act (l.headD 0) D else D)
def DS.crash (S : DS) (l : List Int) : DS := { S with now := crashTo S.pend l S.sure, sure := crashTo S.pend l S.sure, pend := [], fuse := -1, off := false }
def DS.new (room : Int) : DS := ⟨fNil, fNil, [], room, -1, false⟩
/-- What the walks ask of a disk. -/
structure DS.Fit (S : DS) : Prop where
  now : StrMap S.now
  sure : StrMap S.sure
  ops : ∀ o ∈ S.pend, o.ok
  room0 : 0 ≤ S.room
  room1 : S.room ≤ 16777216
  fuse0 : -1 ≤ S.fuse
  fuse1 : S.fuse ≤ 1000000
/-- .. and where writing calls are made. -/
structure DS.Good (S : DS) : Prop extends S.Fit where
  sum : (fSum S.now : Int) ≤ S.room
  few : fLen S.now ≤ 600
  few' : fLen S.sure ≤ 600
def DS.readE (S : DS) (s : List UInt8) : Int := if S.off then 15 else if nameB s then (if fHas S.now s then 0 else 5) else 11
def DS.readT (S : DS) (s : List UInt8) : List UInt8 := if S.off then [] else if nameB s then fS S.now s else []
theorem crashTo_snoc (o : DOp) : ∀ (os : List DOp) (l : List Int) (D : DM), crashTo (os ++ [o]) l D = if 0 < l.getD os.length 0 then o.act (l.getD os.length 0) (crashTo os l D) else crashTo os l D
  | [], l, D => by cases l <;> simp [crashTo]
  | p :: os, l, D => by
    simp only [List.cons_append, crashTo, crashTo_snoc o os, List.length_cons]
    cases l with
    | nil => simp
    | cons x r => simp
theorem crashTo_str : ∀ (os : List DOp) (l : List Int) (D : DM), StrMap D → StrMap (crashTo os l D)
  | [], _, _, h => h
  | p :: os, l, D, h => by
    simp only [crashTo]
    split
    · exact crashTo_str os _ _ (p.act_str h _)
    · exact crashTo_str os _ _ h
theorem crashTo_len : ∀ (os : List DOp) (l : List Int) (D : DM), StrMap D → fLen (crashTo os l D) ≤ fLen D + os.length
  | [], _, _, _ => by simp [crashTo]
  | p :: os, l, D, h => by
    simp only [crashTo]
    split
    · have h1 := crashTo_len os l.tail _ (p.act_str h (l.headD 0))
      have h2 := p.act_len h (l.headD 0)
      rw [List.length_cons]; omega
    · have h1 := crashTo_len os l.tail _ h
      rw [List.length_cons]; omega
end Go.Proofs.YtlenmkemjaaaoaaDoor
end

section
/- Words for the disk's memory: maps of strings, boxes, closures, the disk itself; what a call may touch. -/
namespace Go.Proofs.YtlenmkemjaaaoaaDoor
open Go.RowKit Go.Maps Go.ChangeMaps Go.WideMaps

/-- A string's value. -/
def strV (s : List UInt8) : Value := .string ⟨s.toArray⟩
theorem strV_enc (s : List UInt8) : strV s = encStr s := rfl
theorem keyed : Keyed Tryd.prog 9 := string_keyed Tryd.underlying9
theorem zeroStr (w : World) : (zeroValue 9).run Tryd.prog w = .ok (strV []) w := by kernel_rfl
theorem keyStr (k : List UInt8) (hk : k.length ≤ maxLen) : keyOf Tryd.prog 9 (strV k) = some (.string k) := by
  have := keyOf_string_mk (P := Tryd.prog) (k := 9) (s := ⟨k.toArray⟩) Tryd.underlying9 (by simpa [ByteArray.size] using hk)
  simpa [strV] using this
theorem elemStr (t : List UInt8) (ht : t.length ≤ maxLen) : plainElem (H := Unit) Tryd.prog 9 (strV t) = some (litS t, []) := by
  have := plainElem_string (H := Unit) (P := Tryd.prog) (e := 9) (s := ⟨t.toArray⟩) Tryd.underlying9 (by simpa [ByteArray.size] using ht)
  simpa [strV, litS] using this
theorem elemStr_inv {v : Value} {z : DM × List MemPlace} (h : plainElem (H := Unit) Tryd.prog 9 v = some z) : ∃ t, v = strV t ∧ z = (litS t, []) ∧ t.length ≤ maxLen := by
  obtain ⟨s, rfl, rfl, hs⟩ := plainElem_string_inv Tryd.underlying9 h
  exact ⟨s.data.toList, by simp [strV], rfl, by rw [Array.length_toList]; exact hs⟩

/-- Block b is a map that reads as D. -/
def MapIs (w : World) (b : Nat) (D : DM) : Prop := w.ownsMap Tryd.prog 9 (plainElem Tryd.prog 9) b (fLen D) D
section
variable {w w' : World} {b n : Nat} {D : DM} {k t : List UInt8}
theorem MapIs.of (h : w.ownsMap Tryd.prog 9 (plainElem Tryd.prog 9) b n D) : MapIs w b D := by
  obtain ⟨es, clock, hb, F, _, rfl⟩ := h
  exact ⟨es, clock, hb, F, by simp [fLen, Maps.size, length_sorted], rfl⟩
theorem MapIs.str (h : MapIs w b D) : StrMap D := by
  obtain ⟨es, rfl, hp, _⟩ := World.ownsMap.entries h keyed
  refine ⟨es, rfl, hp, fun p hm => ?_⟩
  obtain ⟨es', clock, _, F, _, he⟩ := h
  have he' : es = (es'.toList.map (WideElems.rg Tryd.prog 9 (plainElem (H := Unit) Tryd.prog 9))).foldr DataW.insert [] := by injection he
  rw [he'] at hm
  obtain ⟨x, hx, rfl⟩ := List.mem_map.1 (mem_sorted.1 hm)
  obtain ⟨y, hy⟩ := F.reads x hx
  rw [WideElems.rg_of hy]
  obtain ⟨z, hz, he2⟩ := WideElems.rd_val hy
  obtain ⟨t, _, rfl, _⟩ := elemStr_inv hz
  obtain ⟨q, _, hq, _⟩ := Maps.keyOf_str Tryd.underlying9 (WideElems.rd_key hy)
  exact ⟨q, t, by rw [← hq]; exact Prod.ext rfl he2⟩
theorem MapIs.lt (h : MapIs w b D) : b < w.heap.size := World.ownsMap.lt h
theorem MapIs.block (h : MapIs w b D) (hb : w'.heap[b]? = w.heap[b]?) : MapIs w' b D := by
  obtain ⟨es, clock, hb', r⟩ := h
  exact ⟨es, clock, hb.trans hb', r⟩
theorem MapIs.at (h : MapIs w b D) : ∃ es clock, w.heap[b]? = some (.map es clock) := by
  obtain ⟨es, clock, hb', r⟩ := h
  exact ⟨es, clock, hb'⟩
theorem MapIs.val (k : List UInt8) {v : Value} {ps : List MemPlace} (hv : plainElem (H := Unit) Tryd.prog 9 v = some (D.atKey (.string k) (litS []), ps)) : v = strV (fS D k) := by
  obtain ⟨t, rfl, he, _⟩ := elemStr_inv hv
  simp only [Prod.mk.injEq] at he
  unfold fS
  rw [he.1]
  rfl
/-- 'v, ok := m[k]'. -/
theorem MapIs.look (h : MapIs w b D) (hk : k.length ≤ maxLen) : (Instr.lookup 72 (.map (some b)) (strV k) true).run Tryd.prog w = .ok (.tuple #[strV (fS D k), .bool (fHas D k)]) w := by
  obtain ⟨v, ps, hr, hv⟩ := World.ownsMap.look_ok h keyed Tryd.underlying72 (zeroStr w) (elemStr [] (Nat.zero_le _)) (keyStr k hk)
  rw [hr, MapIs.val k hv]
  rfl
theorem MapIs.text_le (h : MapIs w b D) (hk : k.length ≤ maxLen) : (fS D k).length ≤ maxLen := by
  obtain ⟨v, ps, hr, hv⟩ := World.ownsMap.look_ok h keyed Tryd.underlying72 (zeroStr w) (elemStr [] (Nat.zero_le _)) (keyStr k hk)
  obtain ⟨t, rfl, he, ht⟩ := elemStr_inv hv
  simp only [Prod.mk.injEq] at he
  unfold fS
  rw [he.1]
  exact ht
theorem MapIs.len (h : MapIs w b D) (ty : TypeId) : (Builtin.len_ #[72] ty #[.map (some b)]).run Tryd.prog w = .ok (.int .i64 (fLen D)) w :=
  World.ownsMap.len h Tryd.underlying72 ty
/-- 'm[k] = t'. -/
theorem MapIs.put (h : MapIs w b D) (hn : fLen D < maxLen) (hk : k.length ≤ maxLen) (ht : t.length ≤ maxLen) :
    ∃ w', (Instr.mapUpdate 72 (.map (some b)) (strV k) (strV t)).run Tryd.prog w = .ok () w' ∧ MapIs w' b (fPut D k t) ∧ w.mapTurned w' b := by
  obtain ⟨w', hr, ho, hm⟩ := World.ownsMap.store h keyed Tryd.underlying72 hn (keyStr k hk) (elemStr t ht)
  exact ⟨w', hr, MapIs.of ho, hm⟩
end

/-- w' is w but for the blocks of L, and new ones. -/
structure Touch (L : List Nat) (w w' : World) : Prop where
  os : w'.os = w.os
  tape : w'.tape = w.tape
  output : w'.output = w.output
  size : w.heap.size ≤ w'.heap.size
  block : ∀ i, i < w.heap.size → i ∉ L → w'.heap[i]? = w.heap[i]?
section
variable {L L' : List Nat} {w w1 w' : World}
theorem Touch.refl (L : List Nat) (w : World) : Touch L w w := ⟨rfl, rfl, rfl, Nat.le_refl _, fun _ _ _ => rfl⟩
theorem Touch.trans (h : Touch L w w1) (h' : Touch L' w1 w') (hL : ∀ i ∈ L', i ∈ L ∨ w.heap.size ≤ i) : Touch L w w' :=
  ⟨h'.os.trans h.os, h'.tape.trans h.tape, h'.output.trans h.output, Nat.le_trans h.size h'.size, fun i hi hn => (h'.block i (Nat.lt_of_lt_of_le hi h.size) (fun hm => by
    rcases hL i hm with h1 | h1
    · exact hn h1
    · omega)).trans (h.block i hi hn)⟩
theorem Touch.mono (h : Touch L w w') (hL : ∀ i ∈ L, i ∈ L' ∨ w.heap.size ≤ i) : Touch L' w w' := ⟨h.os, h.tape, h.output, h.size, fun i hi hn => h.block i hi (fun hm => by
  rcases hL i hm with h1 | h1
  · exact hn h1
  · omega)⟩
theorem Touch.grown {row : Option Nat} (h : w.grownBy w' row) (hr : ∀ b, row = some b → b ∈ L) : Touch L w w' :=
  ⟨h.os, h.tape, h.output, h.size, fun i hi hn => h.block i hi (fun e => hn (hr i e.symm))⟩
theorem Touch.ofBelow (h : Below w.heap.size w w') : Touch L w w' := ⟨h.os, h.tape, h.output, h.size, fun i hi _ => h.block i hi⟩
theorem Touch.below {B : Nat} (h : Touch L w w') (hB : B ≤ w.heap.size) (hL : ∀ i ∈ L, B ≤ i) : Below B w w' :=
  ⟨h.os, h.tape, h.output, h.size, fun i hi => h.block i (Nat.lt_of_lt_of_le hi hB) (fun hm => by have := hL i hm; omega)⟩
theorem Touch.drewN (n : Nat) : Touch L w (w.drewN n) := ⟨rfl, rfl, rfl, Nat.le_refl _, fun _ _ _ => rfl⟩
theorem Touch.setCell {g i : Nat} (u : Value) (hg : g ∈ L) : Touch L w (w.setCell ⟨g, i, none⟩ u) :=
  ⟨rfl, rfl, rfl, by simp, fun k _ hn => Below.heap_setCell w ⟨g, i, none⟩ u k (fun e => hn (by have : k = g := e; rw [this]; exact hg))⟩
theorem Touch.alloc (o : Obj) : Touch L w (w.alloc o) := Touch.grown (World.grownBy_alloc w o none) (by simp)
theorem Blk.touch {g : Nat} {t : TypeId} {cs : List Value} (h : Blk w g t cs) (ht : Touch L w w') (hg : g ∉ L) : Blk w' g t cs := (ht.block g h.lt hg).trans h
theorem MapIs.touch {b : Nat} {D : DM} (h : MapIs w b D) (ht : Touch L w w') (hg : b ∉ L) : MapIs w' b D := h.block (ht.block b h.lt hg)
theorem own_touch {base : Nat} {e : TypeId} {size : Nat} {v : Value} {n : Nat} {xs : List Value} (h : w.ownsRow base e size v n xs) (ht : Touch L w w') (hv : ∀ b, v.ownBlock = some b → b ∉ L) : w'.ownsRow base e size v n xs := by
  obtain ⟨h1, h2⟩ := h
  refine ⟨h1, ?_⟩
  rcases h2 with h2 | ⟨g, cap, cur, rfl, hb, hg, r⟩
  · exact .inl h2
  · have hlt : g < w.heap.size := (Array.getElem?_eq_some_iff.1 hg).1
    exact .inr ⟨g, cap, cur, rfl, hb, (ht.block g hlt (hv g rfl)).trans hg, r⟩
end

/-- A closure that does a pending call. -/
def OpIs (w : World) : DOp → Value → Prop
  | .write s t, v => ∃ a b, v = .func (.func 86) #[] #[.pointer (some ⟨a, 0, none⟩), .pointer (some ⟨b, 0, none⟩)] ∧ Blk w a 9 [strV t] ∧ Blk w b 9 [strV s]
  | .remove s, v => ∃ a, v = .func (.func 85) #[] #[.pointer (some ⟨a, 0, none⟩)] ∧ Blk w a 9 [strV s]
  | .rename s t, v => ∃ a b, v = .func (.func 87) #[] #[.pointer (some ⟨a, 0, none⟩), .pointer (some ⟨b, 0, none⟩)] ∧ Blk w a 9 [strV s] ∧ Blk w b 9 [strV t]
/-- No block of L is a box of a string. -/
def NoBox (w : World) (L : List Nat) : Prop := ∀ i ∈ L, ∀ cs, ¬ Blk w i 9 cs
theorem OpIs.touch {w w' : World} {L : List Nat} {o : DOp} {v : Value} (h : OpIs w o v) (ht : Touch L w w') (hL : NoBox w L) : OpIs w' o v := by
  cases o with
  | write s t =>
    obtain ⟨a, b, e, h1, h2⟩ := h
    exact ⟨a, b, e, h1.touch ht (fun hm => hL a hm _ h1), h2.touch ht (fun hm => hL b hm _ h2)⟩
  | remove s =>
    obtain ⟨a, e, h1⟩ := h
    exact ⟨a, e, h1.touch ht (fun hm => hL a hm _ h1)⟩
  | rename s t =>
    obtain ⟨a, b, e, h1, h2⟩ := h
    exact ⟨a, b, e, h1.touch ht (fun hm => hL a hm _ h1), h2.touch ht (fun hm => hL b hm _ h2)⟩
theorem OpIs.one {w : World} {o : DOp} {v : Value} (h : OpIs w o v) : v.oneCell' = true := by
  cases o with
  | write s t => obtain ⟨a, b, rfl, _⟩ := h; rfl
  | remove s => obtain ⟨a, rfl, _⟩ := h; rfl
  | rename s t => obtain ⟨a, b, rfl, _⟩ := h; rfl
/-- The values hold the calls, one by one. -/
def OpsAre (w : World) (os : List DOp) (vs : List Value) : Prop := os.length = vs.length ∧ ∀ (i : Nat) o v, os[i]? = some o → vs[i]? = some v → OpIs w o v
theorem OpsAre.touch {w w' : World} {L : List Nat} {os : List DOp} {vs : List Value} (h : OpsAre w os vs) (ht : Touch L w w') (hL : NoBox w L) : OpsAre w' os vs :=
  ⟨h.1, fun i o v ho hv => (h.2 i o v ho hv).touch ht hL⟩
theorem OpsAre.snoc {w : World} {os : List DOp} {vs : List Value} {o : DOp} {v : Value} (h : OpsAre w os vs) (ho : OpIs w o v) : OpsAre w (os ++ [o]) (vs ++ [v]) := by
  refine ⟨by simp [h.1], fun i o' v' h1 h2 => ?_⟩
  by_cases hi : i < os.length
  · rw [List.getElem?_append_left hi] at h1
    rw [List.getElem?_append_left (h.1 ▸ hi)] at h2
    exact h.2 i o' v' h1 h2
  · rw [List.getElem?_append_right (by omega)] at h1
    rw [List.getElem?_append_right (by have := h.1; omega)] at h2
    have hl : i = os.length := by
      have := (List.getElem?_eq_some_iff.1 h1).1
      simp at this
      omega
    subst hl
    simp only [Nat.sub_self, List.getElem?_cons_zero, Option.some.injEq] at h1
    rw [h.1] at h2
    simp only [Nat.sub_self, List.getElem?_cons_zero, Option.some.injEq] at h2
    subst h1; subst h2
    exact ho

def dCells (bn bs : Nat) (v : Value) (S : DS) : List Value := [.map (some bn), .map (some bs), v, .int .i64 S.room, .int .i64 S.fuse, .bool S.off]
/-- A disk in memory: its struct in block g, its maps, its row of pending calls. -/
structure DiskAt (w : World) (g bn bs : Nat) (v : Value) (S : DS) : Prop where
  blk : Blk w g 75 (dCells bn bs v S)
  now : MapIs w bn S.now
  sure : MapIs w bs S.sure
  ne : bn ≠ bs
  row : ∃ vs, w.ownsRow 0 120 1 v S.pend.length vs ∧ OpsAre w S.pend vs
def foot (g bn bs : Nat) (v : Value) : List Nat := g :: bn :: bs :: v.ownBlock.toList
def DiskIs (w : World) (L : List Nat) (g : Nat) (S : DS) : Prop := ∃ bn bs v, DiskAt w g bn bs v S ∧ L = foot g bn bs v
/-- .. behind a call. -/
def Turned (w : World) (L : List Nat) (g : Nat) (S : DS) (w' : World) : Prop := Touch L w w' ∧ ∃ L', DiskIs w' L' g S ∧ ∀ i ∈ L', i ∈ L ∨ w.heap.size ≤ i
section
variable {w w' : World} {L M : List Nat} {g bn bs : Nat} {v : Value} {S S' : DS}
theorem DiskAt.mem_foot {i : Nat} (hi : i ∈ foot g bn bs v) : i = g ∨ i = bn ∨ i = bs ∨ v.ownBlock = some i := by
  simp only [foot, List.mem_cons, Option.mem_toList] at hi
  exact hi
/-- A block of another kind is none of the disk's. -/
theorem DiskAt.tag (h : DiskAt w g bn bs v S) {b : Nat} {t : TypeId} {cs : List Value} (hB : Blk w b t cs) (h1 : t ≠ 75) (h2 : t ≠ 120) : b ∉ foot g bn bs v := by
  intro hm
  rcases DiskAt.mem_foot hm with rfl | rfl | rfl | e
  · exact hB.ne_ h.blk h1 rfl
  · obtain ⟨es, c, he⟩ := h.now.at
    unfold Blk at hB; rw [he] at hB; cases hB
  · obtain ⟨es, c, he⟩ := h.sure.at
    unfold Blk at hB; rw [he] at hB; cases hB
  · obtain ⟨vs, ho, _⟩ := h.row
    rcases ho.2 with ⟨rfl, _⟩ | ⟨g', cap, cur, rfl, _, hg, _⟩
    · cases e
    · have : g' = b := by simpa [Value.ownBlock] using e
      subst this
      unfold Blk at hB
      rw [hg] at hB
      injection hB with hB
      injection hB with _ ht
      exact h2 ht.symm
theorem DiskIs.tag (h : DiskIs w L g S) {b : Nat} {t : TypeId} {cs : List Value} (hB : Blk w b t cs) (h1 : t ≠ 75) (h2 : t ≠ 120) : b ∉ L := by
  obtain ⟨bn, bs, v, hd, rfl⟩ := h
  exact hd.tag hB h1 h2
theorem DiskAt.noBox (h : DiskAt w g bn bs v S) : NoBox w (foot g bn bs v) := fun i hi cs hB => h.tag hB (by decide) (by decide) hi
theorem DiskIs.noBox (h : DiskIs w L g S) : NoBox w L := by
  obtain ⟨bn, bs, v, hd, rfl⟩ := h
  exact hd.noBox
theorem DiskAt.lt (h : DiskAt w g bn bs v S) : ∀ i ∈ foot g bn bs v, i < w.heap.size := by
  intro i hi
  rcases DiskAt.mem_foot hi with rfl | rfl | rfl | e
  · exact h.blk.lt
  · exact h.now.lt
  · exact h.sure.lt
  · obtain ⟨vs, ho, _⟩ := h.row
    exact (ho.lt i e).2
theorem DiskIs.lt (h : DiskIs w L g S) : ∀ i ∈ L, i < w.heap.size := by
  obtain ⟨bn, bs, v, hd, rfl⟩ := h
  exact hd.lt
theorem DiskIs.mem (h : DiskIs w L g S) : g ∈ L := by
  obtain ⟨bn, bs, v, hd, rfl⟩ := h
  simp [foot]
/-- What others touch leaves the disk as it is. -/
theorem DiskAt.touch (h : DiskAt w g bn bs v S) (ht : Touch M w w') (hd : ∀ i ∈ foot g bn bs v, i ∉ M) (hb : NoBox w M) : DiskAt w' g bn bs v S := by
  refine ⟨h.blk.touch ht (hd g (by simp [foot])), h.now.touch ht (hd bn (by simp [foot])), h.sure.touch ht (hd bs (by simp [foot])), h.ne, ?_⟩
  obtain ⟨vs, ho, hop⟩ := h.row
  exact ⟨vs, own_touch ho ht (fun b hb' => hd b (by simp [foot, hb'])), hop.touch ht hb⟩
theorem DiskIs.touch (h : DiskIs w L g S) (ht : Touch M w w') (hd : ∀ i ∈ L, i ∉ M) (hb : NoBox w M) : DiskIs w' L g S := by
  obtain ⟨bn, bs, v, h1, rfl⟩ := h
  exact ⟨bn, bs, v, h1.touch ht hd hb, rfl⟩
theorem DiskIs.below (h : DiskIs w L g S) (hb : Below w.heap.size w w') : DiskIs w' L g S := h.touch (M := []) (Touch.ofBelow hb) (by simp) (by simp [NoBox])
theorem DiskAt.below (h : DiskAt w g bn bs v S) (hb : Below w.heap.size w w') : DiskAt w' g bn bs v S := h.touch (M := []) (Touch.ofBelow hb) (by simp) (by simp [NoBox])
theorem Turned.same (h : DiskIs w L g S) (hb : Below w.heap.size w w') : Turned w L g S w' := ⟨Touch.ofBelow hb, L, h.below hb, fun _ hi => .inl hi⟩
theorem Turned.then {w1 : World} (h : Touch L w w1) (hs : ∀ i ∈ M, i ∈ L ∨ w.heap.size ≤ i) (h' : Turned w1 M g S w') : Turned w L g S w' := by
  obtain ⟨ht, L', hd, hL⟩ := h'
  refine ⟨h.trans ht hs, L', hd, fun i hi => ?_⟩
  rcases hL i hi with h1 | h1
  · exact hs i h1
  · exact .inr (Nat.le_trans h.size h1)
end
section
variable {P : Program} (w : World)
theorem run_neq_map_nil (t k e : TypeId) (p : Option Nat) (h : P.underlying t = some (.map k e)) : (binOp .neq t (.map p) (.map none)).run P w = .ok (.bool (!p.isNone)) w := by
  simp only [binOp]
  have h1 : ∀ d, (Op.equalIn (d + 1) t (.map p) (.map none)).run P w = .ok p.isNone w := fun d => by cases p <;> simp [Op.equalIn, run_underlying h]
  simp [show Op.equal t (.map p) (.map none) = Op.equalIn (9999 + 1) t (.map p) (.map none) from rfl, h1 9999]
end
end Go.Proofs.YtlenmkemjaaaoaaDoor
end
