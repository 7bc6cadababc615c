/- Joined: DkP, DkW. -/
import Derived.Maps.OwnSet
import Derived.Maps.Ext
import Derived.Maps.StringElems
import Derived.Sort.KeysCollected
import Derived.Test.YtamdhaoglapnnaaGreatDoorProg
import Derived.Test.YtamdhaoglapnnaaGreatDoorM01
import Derived.Maps.OwnOps
import Derived.Sort.OwnSorted
import Derived.Deep.QuietTactic
import Derived.LoopTactic
import Derived.IntWalk
import Derived.Shelf.Strings.Builder1
import Derived.Shelf.Small.Bits
import Derived.Shelf.Small.Strs
import Derived.Shelf.Utf8.RuneCount
import Derived.Shelf.Strconv.Itoa0
import Derived.Shelf.Strconv.Itoa1
import Derived.Shelf.LaysM
import Derived.Shelf.Strconv.Itoa2
import Derived.Shelf.Strconv.Itoa3
import Derived.Shelf.Strconv.Clone
import Derived.Shelf.Strconv.SyntaxError
import Derived.Shelf.LaysC
import Derived.Shelf.Strconv.ToError
import Derived.Shelf.Strconv.Lower
import Derived.Shelf.Strconv.ParseUint10
import Derived.Shelf.Strconv.ParseUint10Empty
import Derived.Shelf.Strconv.ParseUint10Any
import Derived.Shelf.Strconv.RangeError
import Derived.Shelf.Strconv.ToErrorRange
import Derived.Shelf.Strings.Search1
import Derived.Shelf.Strings.Search2
import Derived.Shelf.Strings.Search3
import Derived.Shelf.Strings.Count
import Derived.Shelf.Strings.Shaped
import Derived.Shelf.Strings.Prefix
import Derived.Shelf.Strings.Split
import Derived.Shelf.Strings.SplitShaped
import Derived.Shelf.Unicode.Decode
import Derived.Shelf.Strings.RuneCount
import Derived.Shelf.Strings.Explode
import Derived.Shelf.Unicode.DecodeSlow
import Derived.Shelf.Unicode.DecodeAny
import Derived.Ground.SlgfProg
import Derived.Shelf.SlicesE.IndexFunc
import Derived.Shelf.SlicesE.DeleteFunc
import Derived.Ground.SlgmProg
import Derived.Shelf.SortM.Plain
import Derived.Shelf.SortM.SortNone
import Derived.Lib.SmallJoins
import Derived.Lib.AppendIntMem
import Derived.Lib.ItoaLen
section
section
/- The disk as plain data: files by names, what calls do with them, what a crash leaves. -/
namespace Go.Proofs.YtamdhaoglapnnaaGreatDoor
open Go.Maps

/-- Files by names, as a map's datum. -/
abbrev DM := DataW Unit
def strD : DM → List UInt8
  | .lit (.string s) => s
  | _ => []
def litS (t : List UInt8) : DM := .lit (.string t)
def fHas (D : DM) (k : List UInt8) : Bool := Maps.has D (.string k)
def fS (D : DM) (k : List UInt8) : List UInt8 := strD (D.atKey (.string k) (litS []))
def fPut (D : DM) (k t : List UInt8) : DM := D.put (.string k) (litS t)
def fDel (D : DM) (k : List UInt8) : DM := D.del (.string k)
def fLen (D : DM) : Nat := Maps.size D
def fEs : DM → List (Lit × DM)
  | .map es => es
  | _ => []
def lenD (p : Lit × DM) : Nat := (strD p.2).length
def fSum (D : DM) : Nat := ((fEs D).map lenD).sum
def fNames (D : DM) : List (List UInt8) := (strKeys D).mergeSort leB
def fFiles (D : DM) : List (List UInt8 × List UInt8) := (fNames D).map fun k => (k, fS D k)
def fNil : DM := .map []
/-- What the datum of a map of strings is. -/
def StrMap (D : DM) : Prop := ∃ es, D = .map es ∧ es.Pairwise (fun p q => p.1 ≠ q.1) ∧ ∀ p ∈ es, ∃ k v : List UInt8, p = (.string k, litS v)

theorem StrMap.nil : StrMap fNil := ⟨[], rfl, List.Pairwise.nil, by simp⟩
theorem StrMap.tidy {D : DM} (h : StrMap D) : Tidy D := by obtain ⟨es, rfl, hp, _⟩ := h; exact ⟨es, rfl, hp⟩
theorem StrMap.isMap {D : DM} (h : StrMap D) : IsMap D := h.tidy.isMap
theorem keyLit (k : List UInt8) : WideAt.IsKeyLit (.string k) := trivial
theorem StrMap.put {D : DM} (h : StrMap D) (k t : List UInt8) : StrMap (fPut D k t) := by
  have ht := h.tidy.put (keyLit k) (litS t)
  obtain ⟨es, rfl, hp, hs⟩ := h
  obtain ⟨es', he, hp'⟩ := ht
  refine ⟨es', he, hp', fun p hm => ?_⟩
  simp only [DataW.put, DataW.map.injEq] at he
  rw [← he] at hm
  have hmem : ∀ (l : List (Lit × DM)) (x p), p ∈ DataW.insert x l → p = x ∨ p ∈ l := by
    intro l x p
    induction l with
    | nil => intro h; simp only [DataW.insert, List.mem_singleton] at h; exact .inl h
    | cons y r ih =>
      unfold DataW.insert
      split
      · intro h; simpa using h
      · intro h
        rcases List.mem_cons.1 h with h | h
        · exact .inr (by simp [h])
        · rcases ih h with h | h
          · exact .inl h
          · exact .inr (by simp [h])
  rcases hmem _ _ _ hm with h | h
  · exact ⟨k, t, h⟩
  · exact hs p (List.mem_filter.1 h).1
theorem StrMap.del {D : DM} (h : StrMap D) (k : List UInt8) : StrMap (fDel D k) := by
  obtain ⟨es, rfl, hp, hs⟩ := h
  exact ⟨_, rfl, hp.filter _, fun p hm => hs p (List.mem_filter.1 hm).1⟩

theorem sum_insert (f : Lit × DM → Nat) (x : Lit × DM) : ∀ l : List (Lit × DM), ((DataW.insert x l).map f).sum = f x + (l.map f).sum
  | [] => by simp [DataW.insert]
  | y :: r => by
    unfold DataW.insert
    split
    · simp
    · simp only [List.map_cons, List.sum_cons, sum_insert f x r]; omega
theorem strike_none (k : Lit) : ∀ l : List (Lit × DM), (∀ p ∈ l, p.1 ≠ k) → (l.filter fun p => !p.1.sameKey k) = l := fun l h => by
  rw [List.filter_eq_self]
  intro p hp
  rw [sameKey_ne (h p hp)]; rfl
def hitS (l : List (Lit × DM)) (k : Lit) : DM := match l.find? (fun p => p.1.sameKey k) with | some p => p.2 | none => litS []
theorem sum_strike (k : Lit) : ∀ l : List (Lit × DM), l.Pairwise (fun p q => p.1 ≠ q.1) →
    ((l.filter fun p => !p.1.sameKey k).map lenD).sum + (strD (hitS l k)).length = (l.map lenD).sum
  | [], _ => by simp [strD, litS, hitS]
  | p :: r, h => by
    obtain ⟨h1, h2⟩ := List.pairwise_cons.1 h
    cases hs : p.1.sameKey k with
    | true =>
      have he := WideAt.sameKey_eq hs
      have hr := strike_none k r (fun q hq e => h1 q hq (by rw [he, e]))
      rw [List.filter_cons_of_neg (by simp [hs]), hr]
      simp only [hitS, List.find?_cons_of_pos (p := fun p : Lit × DM => p.1.sameKey k) (by simpa using hs), lenD, List.map_cons, List.sum_cons]
      omega
    | false =>
      rw [List.filter_cons_of_pos (by simp [hs])]
      have := sum_strike k r h2
      have e : hitS (p :: r) k = hitS r k := by simp only [hitS, List.find?_cons_of_neg (p := fun p : Lit × DM => p.1.sameKey k) (a := p) (l := r) (by simp [hs])]
      rw [e]
      simp only [List.map_cons, List.sum_cons]
      omega
theorem fS_map (es : List (Lit × DM)) (k : List UInt8) : fS (.map es) k = strD (hitS es (.string k)) := by
  simp only [fS, hitS, DataW.atKey]
  cases es.find? (fun p => p.1.sameKey (.string k)) <;> rfl
theorem fSum_put {D : DM} (h : StrMap D) (k t : List UInt8) : fSum (fPut D k t) + (fS D k).length = fSum D + t.length := by
  obtain ⟨es, rfl, hp, _⟩ := h
  have h1 := sum_strike (.string k) es hp
  have h2 : fSum (fPut (.map es) k t) = t.length + ((es.filter fun p => !p.1.sameKey (.string k)).map lenD).sum := by
    simp only [fSum, fPut, DataW.put, fEs, sum_insert]
    rfl
  have h4 : fSum (.map es) = (es.map lenD).sum := rfl
  rw [h2, fS_map, h4]
  rw [Nat.add_assoc, h1, Nat.add_comm]
theorem fSum_del {D : DM} (h : StrMap D) (k : List UInt8) : fSum (fDel D k) + (fS D k).length = fSum D := by
  obtain ⟨es, rfl, hp, _⟩ := h
  rw [fS_map]
  exact sum_strike (.string k) es hp
theorem ne_lit {a b : List UInt8} (h : a ≠ b) : (Lit.string a) ≠ .string b := fun e => h (by injection e)
section
variable {D : DM} {k k' t : List UInt8}
theorem fHas_put_same (h : StrMap D) : fHas (fPut D k t) k = true := has_put_same h.isMap (keyLit k) _
theorem fHas_put_other (hne : k' ≠ k) : fHas (fPut D k t) k' = fHas D k' := has_put_other (ne_lit hne) _
theorem fS_put_same (h : StrMap D) : fS (fPut D k t) k = t := by
  unfold fS fPut; rw [atKey_put_same h.isMap (keyLit k)]; rfl
theorem fS_put_other (hne : k' ≠ k) : fS (fPut D k t) k' = fS D k' := by
  unfold fS fPut; rw [atKey_put_other (ne_lit hne)]
theorem fHas_del_same : fHas (fDel D k) k = false := has_del_same
theorem fHas_del_other (hne : k' ≠ k) : fHas (fDel D k) k' = fHas D k' := has_del_other (ne_lit hne)
theorem fS_del_same : fS (fDel D k) k = [] := by unfold fS fDel; rw [atKey_del_same]; rfl
theorem fS_del_other (hne : k' ≠ k) : fS (fDel D k) k' = fS D k' := by unfold fS fDel; rw [atKey_del_other (ne_lit hne)]
theorem fS_none (h : fHas D k = false) : fS D k = [] := by unfold fS; rw [atKey_of_not_has h]; rfl
theorem fLen_put (h : StrMap D) : fLen (fPut D k t) = if fHas D k then fLen D else fLen D + 1 := size_put h.tidy _
theorem fLen_del (h : StrMap D) : fLen (fDel D k) + (if fHas D k then 1 else 0) = fLen D := size_del h.tidy
theorem fLen_put_le (h : StrMap D) : fLen (fPut D k t) ≤ fLen D + 1 := by rw [fLen_put h]; split <;> omega
theorem fLen_del_le (h : StrMap D) : fLen (fDel D k) ≤ fLen D := by have := fLen_del (k := k) h; omega
end
/-- The entries' texts, by name. -/
theorem fS_of_mem {D : DM} {es : List (Lit × DM)} (hD : D = .map es) (hp : es.Pairwise (fun p q => p.1 ≠ q.1)) {k v : List UInt8} (hm : (Lit.string k, litS v) ∈ es) : fS D k = v := by
  subst hD
  have : es.find? (fun p => p.1.sameKey (.string k)) = some (.string k, litS v) := by
    induction es with
    | nil => cases hm
    | cons x r ih =>
      obtain ⟨h1, h2⟩ := List.pairwise_cons.1 hp
      rcases List.mem_cons.1 hm with e | hm'
      · subst e
        rw [List.find?_cons_of_pos (by simp [Lit.sameKey])]
      · have hne : x.1 ≠ .string k := fun e => h1 _ hm' e
        rw [List.find?_cons_of_neg (by simp [sameKey_ne hne])]
        exact ih h2 hm'
  unfold fS DataW.atKey
  simp only [this]
  rfl
theorem keys_sum {D : DM} (h : StrMap D) : ((strKeys D).map fun k => (fS D k).length).sum = fSum D := by
  obtain ⟨es, hD, hp, hs⟩ := h
  have h1 : strKeys D = es.map fun p => strOf p.1 := by rw [hD]; rfl
  have h2 : fSum D = (es.map lenD).sum := by rw [hD]; rfl
  rw [h1, h2, List.map_map]
  congr 1
  apply List.map_congr_left
  intro p hm
  obtain ⟨k, v, rfl⟩ := hs p hm
  show (fS D k).length = v.length
  rw [fS_of_mem hD hp hm]
theorem names_perm (D : DM) : (fNames D).Perm (strKeys D) := List.mergeSort_perm _ _
theorem names_len (D : DM) : (fNames D).length = fLen D := by
  rw [(names_perm D).length_eq]
  cases D <;> simp [strKeys, fLen, Maps.size]
theorem names_sum {D : DM} (h : StrMap D) : ((fFiles D).map fun p => p.2.length).sum = fSum D := by
  rw [← keys_sum h]
  unfold fFiles
  rw [List.map_map]
  exact ((names_perm D).map _).sum_nat
theorem names_has {D : DM} {k : List UInt8} (h : StrMap D) (hm : k ∈ fNames D) : fHas D k = true := by
  have := (names_perm D).mem_iff.1 hm
  obtain ⟨es, rfl, hp, hs⟩ := h
  obtain ⟨p, hp', he⟩ := List.mem_map.1 this
  obtain ⟨k', v, rfl⟩ := hs p hp'
  have : k' = k := he
  subst this
  unfold fHas
  rw [has_eq, List.any_eq_true]
  exact ⟨_, hp', by simp [Lit.sameKey]⟩
theorem files_fst (D : DM) (i : Nat) (h : i < (fFiles D).length) : (fFiles D)[i].1 ∈ fNames D := by
  simp [fFiles]
theorem files_len (D : DM) : (fFiles D).length = fLen D := by simp [fFiles, names_len]

/-! ### the calls -/
/-- A pending call. -/
inductive DOp where
  | write (s t : List UInt8)
  | remove (s : List UInt8)
  | rename (s t : List UInt8)
def cutT (t : List UInt8) (k : Int) : List UInt8 := if 1 < k then t.take ((k - 2) % ((t.length : Int) + 1)).toNat else t
def DOp.act : DOp → Int → DM → DM
  | .write s t, k, D => fPut D s (cutT t k)
  | .remove s, _, D => fDel D s
  | .rename s t, _, D => if fHas D s then fPut (fDel D s) t (fS D s) else D
def DOp.ok : DOp → Prop
  | .write s t => s.length ≤ 80 ∧ t.length ≤ 16777216
  | .remove s => s.length ≤ 80
  | .rename s t => s.length ≤ 80 ∧ t.length ≤ 80
theorem DOp.act_str {D : DM} (h : StrMap D) (o : DOp) (k : Int) : StrMap (o.act k D) := by
  cases o with
  | write s t => exact h.put _ _
  | remove s => exact h.del _
  | rename s t =>
    simp only [DOp.act]
    split
    · exact (h.del _).put _ _
    · exact h
theorem DOp.act_len {D : DM} (h : StrMap D) (o : DOp) (k : Int) : fLen (o.act k D) ≤ fLen D + 1 := by
  cases o with
  | write s t => exact fLen_put_le h
  | remove s => exact Nat.le_succ_of_le (fLen_del_le h)
  | rename s t =>
    simp only [DOp.act]
    split
    · have h1 := fLen_put_le (k := t) (t := fS D s) (h.del s)
      have h2 := fLen_del_le (k := s) h
      omega
    · omega
theorem rename_len {D : DM} (h : StrMap D) (s t : List UInt8) (hs : fHas D s = true) : fLen (fPut (fDel D s) t (fS D s)) ≤ fLen D := by
  have h1 := fLen_put_le (k := t) (t := fS D s) (h.del s)
  have h2 := fLen_del (k := s) h
  rw [hs] at h2
  simp at h2
  omega

/-- A disk. -/
structure DS where
  now : DM
  sure : DM
  pend : List DOp
  room : Int
  fuse : Int
  off : Bool
def nameB (s : List UInt8) : Bool := decide (1 ≤ s.length) && decide (s.length ≤ 80)
def DS.tick (S : DS) : DS := if S.off then S else { S with off := decide (S.fuse = 0), fuse := max (S.fuse - 1) (-1) }
/-- What the power says. -/
def DS.powE (S : DS) : Int := if S.tick.off then 15 else 0
def DS.powR (S : DS) : Int := if S.off then 15 else 0
def DS.does (S : DS) (o : DOp) : DS := { S with now := o.act 1 S.now, pend := S.pend ++ [o] }
def fullB (S : DS) (s t : List UInt8) : Bool := decide (S.room - (t.length : Int) < (fSum S.now : Int) - ((fS S.now s).length : Int)) || decide (600 < fLen S.now + (if fHas S.now s then 0 else 1))
/-- A writing call. -/
inductive Call where
  | write (s t : List UInt8)
  | remove (s : List UInt8)
  | rename (s t : List UInt8)
  | sync
/-- What is wrong with a call, the power let aside. -/
def Call.err (S : DS) : Call → Int
  | .write s t => if nameB s then (if fullB S s t then 14 else 0) else 11
  | .remove s => if nameB s then (if fHas S.now s then 0 else 5) else 11
  | .rename s t => if nameB s && nameB t then (if fHas S.now s then 0 else 5) else 11
  | .sync => 0
def Call.done (S : DS) : Call → DS
  | .write s t => S.does (.write s t)
  | .remove s => S.does (.remove s)
  | .rename s t => S.does (.rename s t)
  | .sync => { S with sure := S.now, pend := [] }
def Call.errno (c : Call) (S : DS) : Int := if S.tick.off then 15 else c.err S.tick
def Call.turn (c : Call) (S : DS) : DS := if S.tick.off then S.tick else if c.err S.tick = 0 then c.done S.tick else S.tick
def choice (l : List Int) (i : Nat) : Int := l.getD i 0
def crashTo : List DOp → List Int → DM → DM
  | [], _, D => D
  | o :: os, l, D => crashTo os l.tail (if 0 < l.headD 0 then o.act (l.headD 0) D else D)
def DS.crash (S : DS) (l : List Int) : DS := { S with now := crashTo S.pend l S.sure, sure := crashTo S.pend l S.sure, pend := [], fuse := -1, off := false }
def DS.new (room : Int) : DS := ⟨fNil, fNil, [], room, -1, false⟩
/-- What the walks ask of a disk. -/
structure DS.Fit (S : DS) : Prop where
  now : StrMap S.now
  sure : StrMap S.sure
  ops : ∀ o ∈ S.pend, o.ok
  room0 : 0 ≤ S.room
  room1 : S.room ≤ 16777216
  fuse0 : -1 ≤ S.fuse
  fuse1 : S.fuse ≤ 1000000
/-- .. and where writing calls are made. -/
structure DS.Good (S : DS) : Prop extends S.Fit where
  sum : (fSum S.now : Int) ≤ S.room
  few : fLen S.now ≤ 600
  few' : fLen S.sure ≤ 600
def DS.readE (S : DS) (s : List UInt8) : Int := if S.off then 15 else if nameB s then (if fHas S.now s then 0 else 5) else 11
def DS.readT (S : DS) (s : List UInt8) : List UInt8 := if S.off then [] else if nameB s then fS S.now s else []
theorem crashTo_snoc (o : DOp) : ∀ (os : List DOp) (l : List Int) (D : DM), crashTo (os ++ [o]) l D = if 0 < l.getD os.length 0 then o.act (l.getD os.length 0) (crashTo os l D) else crashTo os l D
  | [], l, D => by cases l <;> simp [crashTo]
  | p :: os, l, D => by
    simp only [List.cons_append, crashTo, crashTo_snoc o os, List.length_cons]
    cases l with
    | nil => simp
    | cons x r => simp
theorem crashTo_str : ∀ (os : List DOp) (l : List Int) (D : DM), StrMap D → StrMap (crashTo os l D)
  | [], _, _, h => h
  | p :: os, l, D, h => by
    simp only [crashTo]
    split
    · exact crashTo_str os _ _ (p.act_str h _)
    · exact crashTo_str os _ _ h
theorem crashTo_len : ∀ (os : List DOp) (l : List Int) (D : DM), StrMap D → fLen (crashTo os l D) ≤ fLen D + os.length
  | [], _, _, _ => by simp [crashTo]
  | p :: os, l, D, h => by
    simp only [crashTo]
    split
    · have h1 := crashTo_len os l.tail _ (p.act_str h (l.headD 0))
      have h2 := p.act_len h (l.headD 0)
      rw [List.length_cons]; omega
    · have h1 := crashTo_len os l.tail _ h
      rw [List.length_cons]; omega
end Go.Proofs.YtamdhaoglapnnaaGreatDoor
end

section
/- Words for the disk's memory: maps of strings, boxes, closures, the disk itself; what a call may touch. -/
namespace Go.Proofs.YtamdhaoglapnnaaGreatDoor
open Go.RowKit Go.Maps Go.ChangeMaps Go.WideMaps

/-- A string's value. -/
def strV (s : List UInt8) : Value := .string ⟨s.toArray⟩
theorem strV_enc (s : List UInt8) : strV s = encStr s := rfl
theorem keyed : Keyed Tryz.prog 9 := string_keyed Tryz.underlying9
theorem zeroStr (w : World) : (zeroValue 9).run Tryz.prog w = .ok (strV []) w := by kernel_rfl
theorem keyStr (k : List UInt8) (hk : k.length ≤ maxLen) : keyOf Tryz.prog 9 (strV k) = some (.string k) := by
  have := keyOf_string_mk (P := Tryz.prog) (k := 9) (s := ⟨k.toArray⟩) Tryz.underlying9 (by simpa [ByteArray.size] using hk)
  simpa [strV] using this
theorem elemStr (t : List UInt8) (ht : t.length ≤ maxLen) : plainElem (H := Unit) Tryz.prog 9 (strV t) = some (litS t, []) := by
  have := plainElem_string (H := Unit) (P := Tryz.prog) (e := 9) (s := ⟨t.toArray⟩) Tryz.underlying9 (by simpa [ByteArray.size] using ht)
  simpa [strV, litS] using this
theorem elemStr_inv {v : Value} {z : DM × List MemPlace} (h : plainElem (H := Unit) Tryz.prog 9 v = some z) : ∃ t, v = strV t ∧ z = (litS t, []) ∧ t.length ≤ maxLen := by
  obtain ⟨s, rfl, rfl, hs⟩ := plainElem_string_inv Tryz.underlying9 h
  exact ⟨s.data.toList, by simp [strV], rfl, by rw [Array.length_toList]; exact hs⟩

/-- Block b is a map that reads as D. -/
def MapIs (w : World) (b : Nat) (D : DM) : Prop := w.ownsMap Tryz.prog 9 (plainElem Tryz.prog 9) b (fLen D) D
section
variable {w w' : World} {b n : Nat} {D : DM} {k t : List UInt8}
theorem MapIs.of (h : w.ownsMap Tryz.prog 9 (plainElem Tryz.prog 9) b n D) : MapIs w b D := by
  obtain ⟨es, clock, hb, F, _, rfl⟩ := h
  exact ⟨es, clock, hb, F, by simp [fLen, Maps.size, length_sorted], rfl⟩
theorem MapIs.str (h : MapIs w b D) : StrMap D := by
  obtain ⟨es, rfl, hp, _⟩ := World.ownsMap.entries h keyed
  refine ⟨es, rfl, hp, fun p hm => ?_⟩
  obtain ⟨es', clock, _, F, _, he⟩ := h
  have he' : es = (es'.toList.map (WideElems.rg Tryz.prog 9 (plainElem (H := Unit) Tryz.prog 9))).foldr DataW.insert [] := by injection he
  rw [he'] at hm
  obtain ⟨x, hx, rfl⟩ := List.mem_map.1 (mem_sorted.1 hm)
  obtain ⟨y, hy⟩ := F.reads x hx
  rw [WideElems.rg_of hy]
  obtain ⟨z, hz, he2⟩ := WideElems.rd_val hy
  obtain ⟨t, _, rfl, _⟩ := elemStr_inv hz
  obtain ⟨q, _, hq, _⟩ := Maps.keyOf_str Tryz.underlying9 (WideElems.rd_key hy)
  exact ⟨q, t, by rw [← hq]; exact Prod.ext rfl he2⟩
theorem MapIs.lt (h : MapIs w b D) : b < w.heap.size := World.ownsMap.lt h
theorem MapIs.block (h : MapIs w b D) (hb : w'.heap[b]? = w.heap[b]?) : MapIs w' b D := by
  obtain ⟨es, clock, hb', r⟩ := h
  exact ⟨es, clock, hb.trans hb', r⟩
theorem MapIs.at (h : MapIs w b D) : ∃ es clock, w.heap[b]? = some (.map es clock) := by
  obtain ⟨es, clock, hb', r⟩ := h
  exact ⟨es, clock, hb'⟩
theorem MapIs.val (k : List UInt8) {v : Value} {ps : List MemPlace} (hv : plainElem (H := Unit) Tryz.prog 9 v = some (D.atKey (.string k) (litS []), ps)) : v = strV (fS D k) := by
  obtain ⟨t, rfl, he, _⟩ := elemStr_inv hv
  simp only [Prod.mk.injEq] at he
  unfold fS
  rw [he.1]
  rfl
/-- 'v, ok := m[k]'. -/
theorem MapIs.look (h : MapIs w b D) (hk : k.length ≤ maxLen) : (Instr.lookup 87 (.map (some b)) (strV k) true).run Tryz.prog w = .ok (.tuple #[strV (fS D k), .bool (fHas D k)]) w := by
  obtain ⟨v, ps, hr, hv⟩ := World.ownsMap.look_ok h keyed Tryz.underlying87 (zeroStr w) (elemStr [] (Nat.zero_le _)) (keyStr k hk)
  rw [hr, MapIs.val k hv]
  rfl
theorem MapIs.text_le (h : MapIs w b D) (hk : k.length ≤ maxLen) : (fS D k).length ≤ maxLen := by
  obtain ⟨v, ps, hr, hv⟩ := World.ownsMap.look_ok h keyed Tryz.underlying87 (zeroStr w) (elemStr [] (Nat.zero_le _)) (keyStr k hk)
  obtain ⟨t, rfl, he, ht⟩ := elemStr_inv hv
  simp only [Prod.mk.injEq] at he
  unfold fS
  rw [he.1]
  exact ht
theorem MapIs.len (h : MapIs w b D) (ty : TypeId) : (Builtin.len_ #[87] ty #[.map (some b)]).run Tryz.prog w = .ok (.int .i64 (fLen D)) w :=
  World.ownsMap.len h Tryz.underlying87 ty
/-- 'm[k] = t'. -/
theorem MapIs.put (h : MapIs w b D) (hn : fLen D < maxLen) (hk : k.length ≤ maxLen) (ht : t.length ≤ maxLen) :
    ∃ w', (Instr.mapUpdate 87 (.map (some b)) (strV k) (strV t)).run Tryz.prog w = .ok () w' ∧ MapIs w' b (fPut D k t) ∧ w.mapTurned w' b := by
  obtain ⟨w', hr, ho, hm⟩ := World.ownsMap.store h keyed Tryz.underlying87 hn (keyStr k hk) (elemStr t ht)
  exact ⟨w', hr, MapIs.of ho, hm⟩
end

/-- w' is w but for the blocks of L, and new ones. -/
structure Touch (L : List Nat) (w w' : World) : Prop where
  os : w'.os = w.os
  tape : w'.tape = w.tape
  output : w'.output = w.output
  size : w.heap.size ≤ w'.heap.size
  block : ∀ i, i < w.heap.size → i ∉ L → w'.heap[i]? = w.heap[i]?
section
variable {L L' : List Nat} {w w1 w' : World}
theorem Touch.refl (L : List Nat) (w : World) : Touch L w w := ⟨rfl, rfl, rfl, Nat.le_refl _, fun _ _ _ => rfl⟩
theorem Touch.trans (h : Touch L w w1) (h' : Touch L' w1 w') (hL : ∀ i ∈ L', i ∈ L ∨ w.heap.size ≤ i) : Touch L w w' :=
  ⟨h'.os.trans h.os, h'.tape.trans h.tape, h'.output.trans h.output, Nat.le_trans h.size h'.size, fun i hi hn => (h'.block i (Nat.lt_of_lt_of_le hi h.size) (fun hm => by
    rcases hL i hm with h1 | h1
    · exact hn h1
    · omega)).trans (h.block i hi hn)⟩
theorem Touch.mono (h : Touch L w w') (hL : ∀ i ∈ L, i ∈ L' ∨ w.heap.size ≤ i) : Touch L' w w' := ⟨h.os, h.tape, h.output, h.size, fun i hi hn => h.block i hi (fun hm => by
  rcases hL i hm with h1 | h1
  · exact hn h1
  · omega)⟩
theorem Touch.grown {row : Option Nat} (h : w.grownBy w' row) (hr : ∀ b, row = some b → b ∈ L) : Touch L w w' :=
  ⟨h.os, h.tape, h.output, h.size, fun i hi hn => h.block i hi (fun e => hn (hr i e.symm))⟩
theorem Touch.ofBelow (h : Below w.heap.size w w') : Touch L w w' := ⟨h.os, h.tape, h.output, h.size, fun i hi _ => h.block i hi⟩
theorem Touch.below {B : Nat} (h : Touch L w w') (hB : B ≤ w.heap.size) (hL : ∀ i ∈ L, B ≤ i) : Below B w w' :=
  ⟨h.os, h.tape, h.output, h.size, fun i hi => h.block i (Nat.lt_of_lt_of_le hi hB) (fun hm => by have := hL i hm; omega)⟩
theorem Touch.drewN (n : Nat) : Touch L w (w.drewN n) := ⟨rfl, rfl, rfl, Nat.le_refl _, fun _ _ _ => rfl⟩
theorem Touch.setCell {g i : Nat} (u : Value) (hg : g ∈ L) : Touch L w (w.setCell ⟨g, i, none⟩ u) :=
  ⟨rfl, rfl, rfl, by simp, fun k _ hn => Below.heap_setCell w ⟨g, i, none⟩ u k (fun e => hn (by have : k = g := e; rw [this]; exact hg))⟩
theorem Touch.alloc (o : Obj) : Touch L w (w.alloc o) := Touch.grown (World.grownBy_alloc w o none) (by simp)
theorem Blk.touch {g : Nat} {t : TypeId} {cs : List Value} (h : Blk w g t cs) (ht : Touch L w w') (hg : g ∉ L) : Blk w' g t cs := (ht.block g h.lt hg).trans h
theorem MapIs.touch {b : Nat} {D : DM} (h : MapIs w b D) (ht : Touch L w w') (hg : b ∉ L) : MapIs w' b D := h.block (ht.block b h.lt hg)
theorem own_touch {base : Nat} {e : TypeId} {size : Nat} {v : Value} {n : Nat} {xs : List Value} (h : w.ownsRow base e size v n xs) (ht : Touch L w w') (hv : ∀ b, v.ownBlock = some b → b ∉ L) : w'.ownsRow base e size v n xs := by
  obtain ⟨h1, h2⟩ := h
  refine ⟨h1, ?_⟩
  rcases h2 with h2 | ⟨g, cap, cur, rfl, hb, hg, r⟩
  · exact .inl h2
  · have hlt : g < w.heap.size := (Array.getElem?_eq_some_iff.1 hg).1
    exact .inr ⟨g, cap, cur, rfl, hb, (ht.block g hlt (hv g rfl)).trans hg, r⟩
end

/-- A closure that does a pending call. -/
def OpIs (w : World) : DOp → Value → Prop
  | .write s t, v => ∃ a b, v = .func (.func 207) #[] #[.pointer (some ⟨a, 0, none⟩), .pointer (some ⟨b, 0, none⟩)] ∧ Blk w a 9 [strV t] ∧ Blk w b 9 [strV s]
  | .remove s, v => ∃ a, v = .func (.func 90) #[] #[.pointer (some ⟨a, 0, none⟩)] ∧ Blk w a 9 [strV s]
  | .rename s t, v => ∃ a b, v = .func (.func 208) #[] #[.pointer (some ⟨a, 0, none⟩), .pointer (some ⟨b, 0, none⟩)] ∧ Blk w a 9 [strV s] ∧ Blk w b 9 [strV t]
/-- No block of L is a box of a string. -/
def NoBox (w : World) (L : List Nat) : Prop := ∀ i ∈ L, ∀ cs, ¬ Blk w i 9 cs
theorem OpIs.touch {w w' : World} {L : List Nat} {o : DOp} {v : Value} (h : OpIs w o v) (ht : Touch L w w') (hL : NoBox w L) : OpIs w' o v := by
  cases o with
  | write s t =>
    obtain ⟨a, b, e, h1, h2⟩ := h
    exact ⟨a, b, e, h1.touch ht (fun hm => hL a hm _ h1), h2.touch ht (fun hm => hL b hm _ h2)⟩
  | remove s =>
    obtain ⟨a, e, h1⟩ := h
    exact ⟨a, e, h1.touch ht (fun hm => hL a hm _ h1)⟩
  | rename s t =>
    obtain ⟨a, b, e, h1, h2⟩ := h
    exact ⟨a, b, e, h1.touch ht (fun hm => hL a hm _ h1), h2.touch ht (fun hm => hL b hm _ h2)⟩
theorem OpIs.one {w : World} {o : DOp} {v : Value} (h : OpIs w o v) : v.oneCell' = true := by
  cases o with
  | write s t => obtain ⟨a, b, rfl, _⟩ := h; rfl
  | remove s => obtain ⟨a, rfl, _⟩ := h; rfl
  | rename s t => obtain ⟨a, b, rfl, _⟩ := h; rfl
/-- The values hold the calls, one by one. -/
def OpsAre (w : World) (os : List DOp) (vs : List Value) : Prop := os.length = vs.length ∧ ∀ (i : Nat) o v, os[i]? = some o → vs[i]? = some v → OpIs w o v
theorem OpsAre.touch {w w' : World} {L : List Nat} {os : List DOp} {vs : List Value} (h : OpsAre w os vs) (ht : Touch L w w') (hL : NoBox w L) : OpsAre w' os vs :=
  ⟨h.1, fun i o v ho hv => (h.2 i o v ho hv).touch ht hL⟩
theorem OpsAre.snoc {w : World} {os : List DOp} {vs : List Value} {o : DOp} {v : Value} (h : OpsAre w os vs) (ho : OpIs w o v) : OpsAre w (os ++ [o]) (vs ++ [v]) := by
  refine ⟨by simp [h.1], fun i o' v' h1 h2 => ?_⟩
  by_cases hi : i < os.length
  · rw [List.getElem?_append_left hi] at h1
    rw [List.getElem?_append_left (h.1 ▸ hi)] at h2
    exact h.2 i o' v' h1 h2
  · rw [List.getElem?_append_right (by omega)] at h1
    rw [List.getElem?_append_right (by have := h.1; omega)] at h2
    have hl : i = os.length := by
      have := (List.getElem?_eq_some_iff.1 h1).1
      simp at this
      omega
    subst hl
    simp only [Nat.sub_self, List.getElem?_cons_zero, Option.some.injEq] at h1
    rw [h.1] at h2
    simp only [Nat.sub_self, List.getElem?_cons_zero, Option.some.injEq] at h2
    subst h1; subst h2
    exact ho

def dCells (bn bs : Nat) (v : Value) (S : DS) : List Value := [.map (some bn), .map (some bs), v, .int .i64 S.room, .int .i64 S.fuse, .bool S.off]
/-- A disk in memory: its struct in block g, its maps, its row of pending calls. -/
structure DiskAt (w : World) (g bn bs : Nat) (v : Value) (S : DS) : Prop where
  blk : Blk w g 90 (dCells bn bs v S)
  now : MapIs w bn S.now
  sure : MapIs w bs S.sure
  ne : bn ≠ bs
  row : ∃ vs, w.ownsRow 0 145 1 v S.pend.length vs ∧ OpsAre w S.pend vs
def foot (g bn bs : Nat) (v : Value) : List Nat := g :: bn :: bs :: v.ownBlock.toList
def DiskIs (w : World) (L : List Nat) (g : Nat) (S : DS) : Prop := ∃ bn bs v, DiskAt w g bn bs v S ∧ L = foot g bn bs v
/-- .. behind a call. -/
def Turned (w : World) (L : List Nat) (g : Nat) (S : DS) (w' : World) : Prop := Touch L w w' ∧ ∃ L', DiskIs w' L' g S ∧ ∀ i ∈ L', i ∈ L ∨ w.heap.size ≤ i
section
variable {w w' : World} {L M : List Nat} {g bn bs : Nat} {v : Value} {S S' : DS}
theorem DiskAt.mem_foot {i : Nat} (hi : i ∈ foot g bn bs v) : i = g ∨ i = bn ∨ i = bs ∨ v.ownBlock = some i := by
  simp only [foot, List.mem_cons, Option.mem_toList] at hi
  exact hi
/-- A block of another kind is none of the disk's. -/
theorem DiskAt.tag (h : DiskAt w g bn bs v S) {b : Nat} {t : TypeId} {cs : List Value} (hB : Blk w b t cs) (h1 : t ≠ 90) (h2 : t ≠ 145) : b ∉ foot g bn bs v := by
  intro hm
  rcases DiskAt.mem_foot hm with rfl | rfl | rfl | e
  · exact hB.ne_ h.blk h1 rfl
  · obtain ⟨es, c, he⟩ := h.now.at
    unfold Blk at hB; rw [he] at hB; cases hB
  · obtain ⟨es, c, he⟩ := h.sure.at
    unfold Blk at hB; rw [he] at hB; cases hB
  · obtain ⟨vs, ho, _⟩ := h.row
    rcases ho.2 with ⟨rfl, _⟩ | ⟨g', cap, cur, rfl, _, hg, _⟩
    · cases e
    · have : g' = b := by simpa [Value.ownBlock] using e
      subst this
      unfold Blk at hB
      rw [hg] at hB
      injection hB with hB
      injection hB with _ ht
      exact h2 ht.symm
theorem DiskIs.tag (h : DiskIs w L g S) {b : Nat} {t : TypeId} {cs : List Value} (hB : Blk w b t cs) (h1 : t ≠ 90) (h2 : t ≠ 145) : b ∉ L := by
  obtain ⟨bn, bs, v, hd, rfl⟩ := h
  exact hd.tag hB h1 h2
theorem DiskAt.noBox (h : DiskAt w g bn bs v S) : NoBox w (foot g bn bs v) := fun i hi cs hB => h.tag hB (by decide) (by decide) hi
theorem DiskIs.noBox (h : DiskIs w L g S) : NoBox w L := by
  obtain ⟨bn, bs, v, hd, rfl⟩ := h
  exact hd.noBox
theorem DiskAt.lt (h : DiskAt w g bn bs v S) : ∀ i ∈ foot g bn bs v, i < w.heap.size := by
  intro i hi
  rcases DiskAt.mem_foot hi with rfl | rfl | rfl | e
  · exact h.blk.lt
  · exact h.now.lt
  · exact h.sure.lt
  · obtain ⟨vs, ho, _⟩ := h.row
    exact (ho.lt i e).2
theorem DiskIs.lt (h : DiskIs w L g S) : ∀ i ∈ L, i < w.heap.size := by
  obtain ⟨bn, bs, v, hd, rfl⟩ := h
  exact hd.lt
theorem DiskIs.mem (h : DiskIs w L g S) : g ∈ L := by
  obtain ⟨bn, bs, v, hd, rfl⟩ := h
  simp [foot]
/-- What others touch leaves the disk as it is. -/
theorem DiskAt.touch (h : DiskAt w g bn bs v S) (ht : Touch M w w') (hd : ∀ i ∈ foot g bn bs v, i ∉ M) (hb : NoBox w M) : DiskAt w' g bn bs v S := by
  refine ⟨h.blk.touch ht (hd g (by simp [foot])), h.now.touch ht (hd bn (by simp [foot])), h.sure.touch ht (hd bs (by simp [foot])), h.ne, ?_⟩
  obtain ⟨vs, ho, hop⟩ := h.row
  exact ⟨vs, own_touch ho ht (fun b hb' => hd b (by simp [foot, hb'])), hop.touch ht hb⟩
theorem DiskIs.touch (h : DiskIs w L g S) (ht : Touch M w w') (hd : ∀ i ∈ L, i ∉ M) (hb : NoBox w M) : DiskIs w' L g S := by
  obtain ⟨bn, bs, v, h1, rfl⟩ := h
  exact ⟨bn, bs, v, h1.touch ht hd hb, rfl⟩
theorem DiskIs.below (h : DiskIs w L g S) (hb : Below w.heap.size w w') : DiskIs w' L g S := h.touch (M := []) (Touch.ofBelow hb) (by simp) (by simp [NoBox])
theorem DiskAt.below (h : DiskAt w g bn bs v S) (hb : Below w.heap.size w w') : DiskAt w' g bn bs v S := h.touch (M := []) (Touch.ofBelow hb) (by simp) (by simp [NoBox])
theorem Turned.same (h : DiskIs w L g S) (hb : Below w.heap.size w w') : Turned w L g S w' := ⟨Touch.ofBelow hb, L, h.below hb, fun _ hi => .inl hi⟩
theorem Turned.then {w1 : World} (h : Touch L w w1) (hs : ∀ i ∈ M, i ∈ L ∨ w.heap.size ≤ i) (h' : Turned w1 M g S w') : Turned w L g S w' := by
  obtain ⟨ht, L', hd, hL⟩ := h'
  refine ⟨h.trans ht hs, L', hd, fun i hi => ?_⟩
  rcases hL i hi with h1 | h1
  · exact hs i h1
  · exact .inr (Nat.le_trans h.size h1)
end
section
variable {P : Program} (w : World)
theorem run_neq_map_nil (t k e : TypeId) (p : Option Nat) (h : P.underlying t = some (.map k e)) : (binOp .neq t (.map p) (.map none)).run P w = .ok (.bool (!p.isNone)) w := by
  simp only [binOp]
  have h1 : ∀ d, (Op.equalIn (d + 1) t (.map p) (.map none)).run P w = .ok p.isNone w := fun d => by cases p <;> simp [Op.equalIn, run_underlying h]
  simp [show Op.equal t (.map p) (.map none) = Op.equalIn (9999 + 1) t (.map p) (.map none) from rfl, h1 9999]
end
end Go.Proofs.YtamdhaoglapnnaaGreatDoor
end
end
section
/- Joined: RfP, RfM, RfH, RfR. -/
section
/- Tables of names in plain words: what is wrong with one, its text, how a text is read, what changes do. -/
namespace Go.Proofs.YtamdhaoglapnnaaGreatDoor

abbrev Str := List UInt8
/-- A branch: a name, and heads. -/
structure Br where
  name : Str
  heads : List Str
abbrev Tab := List Br
/-- A change. -/
structure Chg where
  name : Str
  old : List Str
  new : List Str
def isLet (c : UInt8) : Bool := (65 ≤ c && c ≤ 90) || (97 ≤ c && c ≤ 122) || (48 ≤ c && c ≤ 57) || c == 45 || c == 95 || c == 46 || c == 35 || c == 64 || c == 126
def nmOk (s : Str) : Bool := s.all isLet && decide (1 ≤ s.length) && decide (s.length ≤ 24)
def rises : List Str → Bool
  | a :: b :: r => lessS a b && rises (b :: r)
  | _ => true
def headsE (l : List Str) : Int := if 8 < l.length then 4 else if rises l then 0 else 7
def preOk : Option Str → Str → Bool
  | none, _ => true
  | some p, n => lessS p n
def mayF : Option Str → Tab → Int
  | _, [] => 0
  | p, b :: r => if nmOk b.name then (if preOk p b.name then (if b.heads = [] then 5 else if headsE b.heads = 0 then mayF (some b.name) r else headsE b.heads) else 7) else 11
def mayE (l : Tab) : Int := if 32 < l.length then 4 else mayF none l
def lineH (l : List Str) : Str := l.flatMap fun d => 32 :: hexOf d
def lineS (b : Br) : Str := b.name ++ lineH b.heads ++ [10]
def printS (l : Tab) : Str := l.flatMap lineS
/-- Each head is a digest. -/
def hOk (l : List Str) : Prop := ∀ d ∈ l, d.length = 32
def tOk (l : Tab) : Prop := ∀ b ∈ l, hOk b.heads
def cOk (l : List Chg) : Prop := ∀ c ∈ l, hOk c.old ∧ hOk c.new

/-! ### order -/
theorem lessS_irr (a : Str) : lessS a a = false := lessS_self a
theorem lessS_cons (x y : UInt8) (a b : Str) : lessS (x :: a) (y :: b) = (decide (x < y) || (x == y && lessS a b)) := by
  unfold lessS
  rw [Op.bytesLess]
theorem lessS_nil (a : Str) : lessS a [] = false := by cases a <;> rfl
theorem lessS_trans : ∀ (a b c : Str), lessS a b = true → lessS b c = true → lessS a c = true
  | [], [], _, h, _ => by cases h
  | [], _ :: _, [], _, h => by cases h
  | [], _ :: _, _ :: _, _, _ => rfl
  | _ :: _, [], _, h, _ => by cases h
  | _ :: _, _ :: _, [], _, h => by cases h
  | x :: a, y :: b, z :: c, h1, h2 => by
    rw [lessS_cons] at h1 h2 ⊢
    simp only [Bool.or_eq_true, decide_eq_true_eq, Bool.and_eq_true, beq_iff_eq] at h1 h2 ⊢
    rcases h1 with h1 | ⟨rfl, h1⟩
    · rcases h2 with h2 | ⟨rfl, _⟩
      · exact .inl (UInt8.lt_trans h1 h2)
      · exact .inl h1
    · rcases h2 with h2 | ⟨rfl, h2⟩
      · exact .inl h2
      · exact .inr ⟨rfl, lessS_trans a b c h1 h2⟩
theorem lessS_asym (a b : Str) (h : lessS a b = true) : lessS b a = false := by
  cases hb : lessS b a with
  | false => rfl
  | true => have := lessS_trans _ _ _ h hb; rw [lessS_irr] at this; cases this
theorem lessS_total : ∀ (a b : Str), lessS a b = false → lessS b a = false → a = b
  | [], [], _, _ => rfl
  | [], _ :: _, h, _ => by cases h
  | _ :: _, [], _, h => by cases h
  | x :: a, y :: b, h1, h2 => by
    rw [lessS_cons] at h1 h2
    simp only [Bool.or_eq_false_iff, decide_eq_false_iff_not, Bool.and_eq_false_imp, beq_iff_eq] at h1 h2
    have hxy : x = y := by
      have g1 := h1.1
      have g2 := h2.1
      rw [UInt8.lt_iff_toNat_lt] at g1 g2
      exact UInt8.toNat_inj.1 (by omega)
    subst hxy
    rw [lessS_total a b (h1.2 rfl) (h2.2 rfl)]
theorem lessS_ne {a b : Str} (h : lessS a b = true) : a ≠ b := fun e => by rw [e, lessS_irr] at h; cases h

/-! ### letters -/
theorem isLet_no : ∀ n : Fin 256, isLet (UInt8.ofNat n.1) = true → (UInt8.ofNat n.1 ≠ 32 ∧ UInt8.ofNat n.1 ≠ 10) := by decide +kernel
theorem isLet_blank {c : UInt8} (h : isLet c = true) : c ≠ 32 ∧ c ≠ 10 := by
  have := isLet_no ⟨c.toNat, c.toNat_lt⟩
  simp only [UInt8.ofNat_toNat] at this
  exact this h
theorem hexD_no : ∀ n : Fin 16, (hexD n.1 ≠ 32 ∧ hexD n.1 ≠ 10) := by decide +kernel
/-- No blank and no line's end. -/
def plainW (s : Str) : Prop := ∀ c ∈ s, c ≠ 32 ∧ c ≠ 10
theorem nmOk_plain {s : Str} (h : nmOk s = true) : plainW s := fun c hc => by
  simp only [nmOk, Bool.and_eq_true, List.all_eq_true] at h
  exact isLet_blank (h.1.1 c hc)
theorem hex_plain (d : Str) : plainW (hexOf d) := fun c hc => by
  unfold hexOf at hc
  obtain ⟨x, _, hx⟩ := List.mem_flatMap.1 hc
  have hl := x.toNat_lt
  simp only [List.mem_cons, List.not_mem_nil, or_false] at hx
  rcases hx with rfl | rfl
  · exact hexD_no ⟨x.toNat / 16, by omega⟩
  · exact hexD_no ⟨x.toNat % 16, by omega⟩

/-! ### a table that may be -/
theorem mayF_cons {p : Option Str} {b : Br} {r : Tab} (h : mayF p (b :: r) = 0) : nmOk b.name = true ∧ preOk p b.name = true ∧ b.heads ≠ [] ∧ headsE b.heads = 0 ∧ mayF (some b.name) r = 0 := by
  simp only [mayF] at h
  split at h <;> rename_i h1
  · split at h <;> rename_i h2
    · split at h <;> rename_i h3
      · cases h
      · split at h <;> rename_i h4
        · exact ⟨h1, h2, h3, h4, h⟩
        · exact absurd h h4
    · cases h
  · cases h
theorem headsE_cases (l : List Str) : headsE l = 0 ∨ headsE l = 4 ∨ headsE l = 7 := by
  unfold headsE
  split
  · exact .inr (.inl rfl)
  · split
    · exact .inl rfl
    · exact .inr (.inr rfl)
/-- Names rise. -/
def sorted (l : Tab) : Prop := l.Pairwise fun a b => lessS a.name b.name = true
/-- Each branch may be. -/
def bOk (b : Br) : Prop := nmOk b.name = true ∧ b.heads ≠ [] ∧ headsE b.heads = 0
theorem mayF_zero : ∀ (l : Tab) (p : Option Str), mayF p l = 0 ↔ ((∀ b ∈ l, bOk b) ∧ sorted l ∧ ∀ q, p = some q → ∀ b ∈ l, lessS q b.name = true)
  | [], p => by simp [mayF, sorted]
  | b :: r, p => by
    constructor
    · intro h
      obtain ⟨h1, h2, h3, h4, h5⟩ := mayF_cons h
      obtain ⟨g1, g2, g3⟩ := (mayF_zero r _).1 h5
      refine ⟨fun x hx => ?_, List.pairwise_cons.2 ⟨fun x hx => g3 _ rfl x hx, g2⟩, fun q hq x hx => ?_⟩
      · rcases List.mem_cons.1 hx with rfl | hx
        · exact ⟨h1, h3, h4⟩
        · exact g1 x hx
      · subst hq
        rcases List.mem_cons.1 hx with rfl | hx
        · exact h2
        · exact lessS_trans _ _ _ h2 (g3 _ rfl x hx)
    · rintro ⟨h1, h2, h3⟩
      obtain ⟨g1, g2⟩ := List.pairwise_cons.1 h2
      obtain ⟨k1, k2, k3⟩ := h1 b (by simp)
      have hp : preOk p b.name = true := by
        cases p with
        | none => rfl
        | some q => exact h3 q rfl b (by simp)
      simp only [mayF]
      rw [if_pos k1, if_pos hp, if_neg k2, if_pos k3]
      exact (mayF_zero r _).2 ⟨fun x hx => h1 x (by simp [hx]), g2, fun q hq x hx => by cases hq; exact g1 x hx⟩
theorem mayE_zero (l : Tab) : mayE l = 0 ↔ (l.length ≤ 32 ∧ (∀ b ∈ l, bOk b) ∧ sorted l) := by
  unfold mayE
  split
  · constructor
    · intro h; cases h
    · rintro ⟨h, _⟩; omega
  · rw [mayF_zero]
    constructor
    · rintro ⟨h1, h2, _⟩; exact ⟨by omega, h1, h2⟩
    · rintro ⟨_, h1, h2⟩; exact ⟨h1, h2, by simp⟩

/-! ### a name's heads; changes -/
def getT (l : Tab) (n : Str) : List Str := match l.find? (fun b => b.name == n) with | some b => b.heads | none => []
def posT (l : Tab) (n : Str) : Nat := (l.takeWhile fun b => lessS b.name n).length
def hasT (l : Tab) (n : Str) : Bool := l.any fun b => b.name == n
def putG (n : Str) (h : List Str) : Bool → Tab → Tab
  | done, [] => if done then [] else [⟨n, h⟩]
  | done, b :: r => if done = false ∧ lessS n b.name = true then ⟨n, h⟩ :: ((if b.name = n then [] else [b]) ++ putG n h true r) else (if b.name = n then [] else [b]) ++ putG n h done r
def putT (l : Tab) (n : Str) (h : List Str) : Tab := putG n h (decide (h = [])) l
def wrongE (l : Tab) (ahead : List Chg) (c : Chg) : Int :=
  if nmOk c.name then (if ahead.any (fun x => x.name == c.name) then 6 else if headsE c.new = 0 then (if getT l c.name = c.old then 0 else 12) else headsE c.new) else 11
def wrongsE (l : Tab) : List Chg → List Chg → Int
  | _, [] => 0
  | ahead, c :: r => if wrongE l ahead c = 0 then wrongsE l (ahead ++ [c]) r else wrongE l ahead c
def putsT (l : Tab) (c : List Chg) : Tab := c.foldl (fun l x => putT l x.name x.new) l
def applyE (l : Tab) (c : List Chg) : Int :=
  if mayE l = 0 then (if 32 < c.length then 4 else if wrongsE l [] c = 0 then (if 32 < (putsT l c).length then 4 else 0) else wrongsE l [] c) else mayE l
def applyT (l : Tab) (c : List Chg) : Tab := if applyE l c = 0 then putsT l c else []
end Go.Proofs.YtamdhaoglapnnaaGreatDoor
end

section
/- Words for memory: lists of digests, tables, rows of changes; laws for loads out of them. -/
namespace Go.Proofs.YtamdhaoglapnnaaGreatDoor
open Go.RowKit
section
variable {P : Program}
theorem wpList_wanted {ops : Array Oper} {rest : List Oper} {o : Oper} {a : Act} {w : World} {Q : Exit → Act → World → Prop} (hw : Region.wanted o (yielded ops a.tmps) = true)
    (h : ∀ K : Act → World → Prop, (∀ a w, wpList P ops Q rest a w → K a w) → o.wp P a w K Q) : wpList P ops Q (o :: rest) a w :=
  wpList_step fun K hK => by rw [if_pos hw]; exact h K hK
theorem wpList_run_g {ops : Array Oper} {rest : List Oper} {o : Oper} {a : Act} {w : World} {Q : Exit → Act → World → Prop} (op : Op) (_ho : o.op = op) (hw : Region.wanted o (yielded ops a.tmps) = true) (v : Value)
    (hrun : (execOp a.eval o).run P w = .ok (.value v) w) (h : wpList P ops Q rest (a.put o.dst v) w) : wpList P ops Q (o :: rest) a w := by
  refine wpList_wanted hw fun _ hK => ?_
  unfold Oper.wp
  rw [hrun]
  exact hK _ _ h
theorem wpQuiet_run_g {ops : Array Oper} {rest : List Oper} {o : Oper} {a : Act} {C : World → Prop} {Q : Act → Prop} (op : Op) (_ho : o.op = op) (hw : Region.wanted o (yielded ops a.tmps) = true) (v : Value)
    (hrun : ∀ w, C w → (execOp a.eval o).run P w = .ok (.value v) w) (h : wpQuiet P ops C Q rest (a.put o.dst v)) : wpQuiet P ops C Q (o :: rest) a := by
  refine wpQuiet_step fun K hK => ?_
  rw [if_pos hw]
  exact ⟨v, fun w hC => by unfold Oper.quietAt; rw [hrun w hC]; exact ⟨rfl, rfl⟩, hK _ h⟩
/-- An aggregate is read where its cells are known. -/
theorem wpList_load_at {ops : Array Oper} {rest : List Oper} {op : Oper} {a : Act} {w : World} {Q : Exit → Act → World → Prop} (ty : TypeId) (x : Operand) (ho : op.op = .load ty x) (hw : Region.wanted op (yielded ops a.tmps) = true)
    (g o : Nat) (hx : a.eval x = .pointer (some ⟨g, o, none⟩)) (part : List Value) (hc : ∀ j v, part[j]? = some v → w.cell? ⟨g, o + j, none⟩ = some v) (d : TypeDesc)
    (hu : P.underlying ty = some d) (hd : d.isRow = true) (hi : (P.info? ty).map (·.size) = some part.length)
    (h : wpList P ops Q rest (a.put op.dst (.agg part.toArray)) w) : wpList P ops Q (op :: rest) a w := by
  refine wpList_run_g _ ho hw _ ?_ h
  unfold execOp
  simp only [ho, hx, Instr.loadAt, Instr.sureAddr, Sem.run_bind, Sem.run_pure, Result.andThen_ok, run_loadVar_mid w g o ty part d hc hu hd hi]
theorem wpQuiet_load_at {ops : Array Oper} {rest : List Oper} {op : Oper} {a : Act} {C : World → Prop} {Q : Act → Prop} (ty : TypeId) (x : Operand) (ho : op.op = .load ty x) (hw : Region.wanted op (yielded ops a.tmps) = true)
    (g o : Nat) (hx : a.eval x = .pointer (some ⟨g, o, none⟩)) (part : List Value) (hc : ∀ w, C w → ∀ j v, part[j]? = some v → w.cell? ⟨g, o + j, none⟩ = some v) (d : TypeDesc)
    (hu : P.underlying ty = some d) (hd : d.isRow = true) (hi : (P.info? ty).map (·.size) = some part.length)
    (h : wpQuiet P ops C Q rest (a.put op.dst (.agg part.toArray))) : wpQuiet P ops C Q (op :: rest) a := by
  refine wpQuiet_run_g _ ho hw _ (fun w hw => ?_) h
  unfold execOp
  simp only [ho, hx, Instr.loadAt, Instr.sureAddr, Sem.run_bind, Sem.run_pure, Result.andThen_ok, run_loadVar_mid w g o ty part d (hc w hw) hu hd hi]
theorem wpQuiet_neq_dig {ops : Array Oper} {rest : List Oper} {o : Oper} {a : Act} {C : World → Prop} {Q : Act → Prop} (x y : Operand) (yt : TypeId) (ho : o.op = .binOp .neq 115 x y yt) (hw : Region.wanted o (yielded ops a.tmps) = true)
    (xs ys : List UInt8) (hxe : a.eval x = .agg (xs.map B).toArray) (hye : a.eval y = .agg (ys.map B).toArray) (hx : xs.length = 32) (hy : ys.length = 32) (r : Bool) (hr : (!(xs == ys)) = r)
    (h : wpQuiet Tryz.prog ops C Q rest (a.put o.dst (.bool r))) : wpQuiet Tryz.prog ops C Q (o :: rest) a :=
  wpQuiet_run_g _ ho hw _ (fun w _ => by rw [exec_neq_dig w ho xs ys hxe hye hx hy, hr]) h
end

/-! ### cells that are read -/
section
variable {w w' : World} {ok ok' : Nat → Prop} {A : Option Addr} {xs : List Value}
theorem Rd.at (h : Rd w ok A xs) (hn : 0 < xs.length) : ∃ b o, A = some ⟨b, o, none⟩ ∧ ok b ∧ b < w.heap.size ∧ ∀ j u, xs[j]? = some u → w.cell? ⟨b, o + j, none⟩ = some u := by
  obtain ⟨⟨b, o, spot⟩, rfl, hb, hc⟩ := h hn
  have h0 := hc 0 xs[0] (List.getElem?_eq_getElem hn)
  have hs : spot = none := by simpa [Addr.add] using World.cell?_spot h0
  subst hs
  refine ⟨b, o, rfl, hb, World.block_lt_of_cell? _ _ (by simpa [Addr.add] using h0), fun j u hu => ?_⟩
  have := hc j u hu
  rwa [addr_add] at this
theorem Rd.stay (h : Rd w ok A xs) (hk : ∀ b, ok b → b < w.heap.size → w'.heap[b]? = w.heap[b]?) (ho : ∀ b, ok b → b < w.heap.size → ok' b) : Rd w' ok' A xs := fun hn => by
  obtain ⟨b, o, rfl, hb, hlt, hc⟩ := h.at hn
  refine ⟨_, rfl, ho b hb hlt, fun j u hu => ?_⟩
  rw [addr_add, World.cell?_of_block (hk b hb hlt)]
  exact hc j u hu
theorem Rd.stayB (h : Rd w ok A xs) (hb : Below w.heap.size w w') : Rd w' ok A xs := h.stay (fun b _ hlt => hb.block b hlt) (fun _ h _ => h)
end

/-- The cells of a list of digests. -/
def hCells (l : List Str) : List Value := l.flatMap fun d => d.map B
theorem hCells_cons (d : Str) (l : List Str) : hCells (d :: l) = d.map B ++ hCells l := by simp [hCells]
theorem hCells_snoc (l : List Str) (d : Str) : hCells (l ++ [d]) = hCells l ++ d.map B := by simp [hCells]
theorem hCells_len : ∀ {l : List Str}, hOk l → (hCells l).length = l.length * 32
  | [], _ => rfl
  | d :: l, h => by
    rw [hCells_cons, List.length_append, hCells_len (l := l) (fun x hx => h x (by simp [hx])), List.length_map, h d (by simp), List.length_cons]
    omega
theorem hCells_at : ∀ {l : List Str}, hOk l → ∀ (k : Nat) (hk : k < l.length) (j : Nat) v, (l[k].map B)[j]? = some v → (hCells l)[k * 32 + j]? = some v
  | d :: l, h, 0, hk, j, v, hv => by
    rw [hCells_cons, List.getElem?_append_left (by have := (List.getElem?_eq_some_iff.1 hv).1; simpa using this)]
    simpa using hv
  | d :: l, h, k + 1, hk, j, v, hv => by
    have hd : (d.map B).length = 32 := by rw [List.length_map]; exact h d (by simp)
    rw [hCells_cons, List.getElem?_append_right (by omega), hd, show (k + 1) * 32 + j - 32 = k * 32 + j by omega]
    exact hCells_at (l := l) (fun x hx => h x (by simp [hx])) k (by simpa using hk) j v (by simpa using hv)
theorem hCells_one (l : List Str) : ∀ v ∈ hCells l, v.oneCell' = true := by
  intro v hv
  unfold hCells at hv
  obtain ⟨d, _, hd⟩ := List.mem_flatMap.1 hv
  obtain ⟨x, _, rfl⟩ := List.mem_map.1 hd
  rfl
/-- The value v is a slice of digests that reads as l. -/
def HdIs (w : World) (ok : Nat → Prop) (v : Value) (l : List Str) : Prop := ∃ A c, v = .slice A l.length c ∧ l.length ≤ c ∧ Rd w ok A (hCells l)
structure HFit (l : List Str) : Prop where
  len : l.length ≤ 4398046511104
  ok : hOk l
section
variable {w w' : World} {ok ok' : Nat → Prop} {v : Value} {l : List Str}
theorem HdIs.stay (h : HdIs w ok v l) (hk : ∀ b, ok b → b < w.heap.size → w'.heap[b]? = w.heap[b]?) (ho : ∀ b, ok b → b < w.heap.size → ok' b) : HdIs w' ok' v l := by
  obtain ⟨A, c, e, hc, hr⟩ := h
  exact ⟨A, c, e, hc, hr.stay hk ho⟩
theorem HdIs.stayB (h : HdIs w ok v l) (hb : Below w.heap.size w w') : HdIs w' ok v l := h.stay (fun b _ hlt => hb.block b hlt) (fun _ h _ => h)
/-- The k-th digest's cells. -/
theorem HdIs.dig {A : Option Addr} {n c : Nat} (h : HdIs w ok (.slice A n c) l) (ho : hOk l) (k : Nat) (hk : k < l.length) : ∃ b o, A = some ⟨b, o, none⟩ ∧ ok b ∧ b < w.heap.size ∧ ∀ j v, (l[k].map B)[j]? = some v → w.cell? ⟨b, o + k * 32 + j, none⟩ = some v := by
  obtain ⟨A', c', e, hc, hr⟩ := h
  injection e with e1 e2 e3
  subst e1
  obtain ⟨b, o, rfl, hb, hlt, hcell⟩ := hr.at (by rw [hCells_len ho]; omega)
  exact ⟨b, o, rfl, hb, hlt, fun j v hv => by rw [Nat.add_assoc]; exact hcell _ v (hCells_at ho k hk j v hv)⟩
end

/-- The cells of a table: names, and slices of digests. -/
def tCells : Tab → List Value → List Value
  | b :: T, v :: vs => strV b.name :: v :: tCells T vs
  | _, _ => []
theorem tCells_len : ∀ (T : Tab) (vs : List Value), vs.length = T.length → (tCells T vs).length = T.length * 2
  | [], _, _ => by simp [tCells]
  | b :: T, [], h => by simp at h
  | b :: T, v :: vs, h => by
    simp only [tCells, List.length_cons, tCells_len T vs (by simpa using h)]
    omega
theorem tCells_at : ∀ (T : Tab) (vs : List Value), vs.length = T.length → ∀ k b v, T[k]? = some b → vs[k]? = some v → (tCells T vs)[k * 2]? = some (strV b.name) ∧ (tCells T vs)[k * 2 + 1]? = some v
  | [], _, _, k, b, v, h, _ => by simp at h
  | b :: T, [], h, _, _, _, _, _ => by simp at h
  | b :: T, v :: vs, h, 0, b', v', h1, h2 => by
    simp only [List.getElem?_cons_zero, Option.some.injEq] at h1 h2
    subst h1; subst h2
    simp [tCells]
  | b :: T, v :: vs, h, k + 1, b', v', h1, h2 => by
    have := tCells_at T vs (by simpa using h) k b' v' (by simpa using h1) (by simpa using h2)
    rw [show (k + 1) * 2 = k * 2 + 1 + 1 by omega]
    simpa [tCells] using this
theorem tCells_app : ∀ (T : Tab) (vs : List Value), vs.length = T.length → ∀ T' vs', tCells (T ++ T') (vs ++ vs') = tCells T vs ++ tCells T' vs'
  | [], [], _, _, _ => rfl
  | [], _ :: _, h, _, _ => by simp at h
  | b :: T, [], h, _, _ => by simp at h
  | b :: T, v :: vs, h, T', vs' => by simp [tCells, tCells_app T vs (by simpa using h) T' vs']
/-- The value v is a slice of branches that reads as T; what lies there lies in blocks of which 'ok' holds. -/
def TabIs (w : World) (ok : Nat → Prop) (v : Value) (T : Tab) : Prop := ∃ A c vs, vs.length = T.length ∧ v = .slice A T.length c ∧ T.length ≤ c ∧ Rd w ok A (tCells T vs) ∧ ∀ (k : Nat) b u, T[k]? = some b → vs[k]? = some u → HdIs w ok u b.heads
structure BFit (b : Br) : Prop where
  name : b.name.length ≤ 140737488355328
  heads : HFit b.heads
structure TFit (T : Tab) : Prop where
  len : T.length ≤ 3518437208832
  ok : ∀ b ∈ T, BFit b
section
variable {w w' : World} {ok ok' : Nat → Prop} {v : Value} {T : Tab}
theorem TabIs.stay (h : TabIs w ok v T) (hk : ∀ b, ok b → b < w.heap.size → w'.heap[b]? = w.heap[b]?) (ho : ∀ b, ok b → b < w.heap.size → ok' b) : TabIs w' ok' v T := by
  obtain ⟨A, c, vs, hl, e, hc, hr, hh⟩ := h
  exact ⟨A, c, vs, hl, e, hc, hr.stay hk ho, fun k b u h1 h2 => (hh k b u h1 h2).stay hk ho⟩
theorem TabIs.stayB (h : TabIs w ok v T) (hb : Below w.heap.size w w') : TabIs w' ok v T := h.stay (fun b _ hlt => hb.block b hlt) (fun _ h _ => h)
theorem TabIs.form (h : TabIs w ok v T) : ∃ A c, v = .slice A T.length c ∧ T.length ≤ c := by
  obtain ⟨A, c, vs, hl, e, hc, _⟩ := h
  exact ⟨A, c, e, hc⟩
theorem TabIs.nil : TabIs w ok (.slice none 0 0) [] := ⟨none, 0, [], rfl, rfl, Nat.le_refl _, Rd.nil, fun k b u h _ => by simp at h⟩
theorem HdIs.nil : HdIs w ok (.slice none 0 0) [] := ⟨none, 0, rfl, Nat.le_refl _, Rd.nil⟩
/-- The k-th branch's two cells. -/
theorem TabIs.br {A : Option Addr} {n c : Nat} (h : TabIs w ok (.slice A n c) T) (k : Nat) (hk : k < T.length) : ∃ b o u, A = some ⟨b, o, none⟩ ∧ ok b ∧ b < w.heap.size ∧ HdIs w ok u T[k].heads ∧ w.cell? ⟨b, o + k * 2, none⟩ = some (strV T[k].name) ∧ w.cell? ⟨b, o + k * 2 + 1, none⟩ = some u := by
  obtain ⟨A', c', vs, hl, e, hc, hr, hh⟩ := h
  injection e with e1 e2 e3
  subst e1
  obtain ⟨b, o, rfl, hb, hlt, hcell⟩ := hr.at (by rw [tCells_len T vs hl]; omega)
  have hv : vs[k]? = some vs[k] := List.getElem?_eq_getElem (by omega)
  have hT : T[k]? = some T[k] := List.getElem?_eq_getElem hk
  obtain ⟨h1, h2⟩ := tCells_at T vs hl k _ _ hT hv
  exact ⟨b, o, vs[k], rfl, hb, hlt, hh k _ _ hT hv, hcell _ _ h1, by have := hcell _ _ h2; rwa [← Nat.add_assoc] at this⟩
end
section
variable {w w' : World} {ok : Nat → Prop} {v : Value}
theorem HdIs.ltB {l : List Str} (h : HdIs w ok v l) : HdIs w (· < w.heap.size) v l := h.stay (fun _ _ _ => rfl) (fun _ _ hlt => hlt)
theorem TabIs.ltB {T : Tab} (h : TabIs w ok v T) : TabIs w (· < w.heap.size) v T := h.stay (fun _ _ _ => rfl) (fun _ _ hlt => hlt)
theorem HdIs.low {B : Nat} {l : List Str} (h : HdIs w (· < B) v l) (hb : Below B w w') : HdIs w' (· < B) v l := h.stay (fun b hlt _ => hb.block b hlt) (fun _ h _ => h)
theorem TabIs.low {B : Nat} {T : Tab} (h : TabIs w (· < B) v T) (hb : Below B w w') : TabIs w' (· < B) v T := h.stay (fun b hlt _ => hb.block b hlt) (fun _ h _ => h)
theorem HdIs.weakB {B B' : Nat} {l : List Str} (h : HdIs w (· < B) v l) (hB : B ≤ B') : HdIs w (· < B') v l := h.stay (fun _ _ _ => rfl) (fun _ h _ => Nat.lt_of_lt_of_le h hB)
end
theorem two_cells {w : World} {b o : Nat} {x y : Value} (h1 : w.cell? ⟨b, o, none⟩ = some x) (h2 : w.cell? ⟨b, o + 1, none⟩ = some y) : ∀ j v, [x, y][j]? = some v → w.cell? ⟨b, o + j, none⟩ = some v := by
  intro j v hv
  match j, hv with
  | 0, hv => simp only [List.getElem?_cons_zero, Option.some.injEq] at hv; subst hv; exact h1
  | 1, hv => simp only [List.getElem?_cons_succ, List.getElem?_cons_zero, Option.some.injEq] at hv; subst hv; exact h2

/-! ### changes -/
def cCells : List Chg → List (Value × Value) → List Value
  | c :: C, v :: vs => strV c.name :: v.1 :: v.2 :: cCells C vs
  | _, _ => []
theorem cCells_len : ∀ (C : List Chg) (vs : List (Value × Value)), vs.length = C.length → (cCells C vs).length = C.length * 3
  | [], _, _ => by simp [cCells]
  | b :: T, [], h => by simp at h
  | b :: T, v :: vs, h => by
    simp only [cCells, List.length_cons, cCells_len T vs (by simpa using h)]
    omega
theorem cCells_at : ∀ (C : List Chg) (vs : List (Value × Value)), vs.length = C.length → ∀ k b v, C[k]? = some b → vs[k]? = some v → ∀ j u, [strV b.name, v.1, v.2][j]? = some u → (cCells C vs)[k * 3 + j]? = some u
  | [], _, _, k, b, v, h, _ => by simp at h
  | b :: T, [], h, _, _, _, _, _ => by simp at h
  | b :: T, v :: vs, h, 0, b', v', h1, h2 => by
    simp only [List.getElem?_cons_zero, Option.some.injEq] at h1 h2
    subst h1; subst h2
    intro j u hu
    match j, hu with
    | 0, hu => simpa [cCells] using hu
    | 1, hu => simpa [cCells] using hu
    | 2, hu => simpa [cCells] using hu
  | b :: T, v :: vs, h, k + 1, b', v', h1, h2 => by
    intro j u hu
    have := cCells_at T vs (by simpa using h) k b' v' (by simpa using h1) (by simpa using h2) j u hu
    rw [show (k + 1) * 3 + j = k * 3 + j + 1 + 1 + 1 by omega]
    simpa [cCells] using this
theorem cCells_app : ∀ (T : List Chg) (vs : List (Value × Value)), vs.length = T.length → ∀ T' vs', cCells (T ++ T') (vs ++ vs') = cCells T vs ++ cCells T' vs'
  | [], [], _, _, _ => rfl
  | [], _ :: _, h, _, _ => by simp at h
  | b :: T, [], h, _, _ => by simp at h
  | b :: T, v :: vs, h, T', vs' => by simp [cCells, cCells_app T vs (by simpa using h) T' vs']
/-- The value v is a slice of changes that reads as C. -/
def ChsIs (w : World) (ok : Nat → Prop) (v : Value) (C : List Chg) : Prop := ∃ A c vs, vs.length = C.length ∧ v = .slice A C.length c ∧ C.length ≤ c ∧ Rd w ok A (cCells C vs) ∧ ∀ (k : Nat) b u, C[k]? = some b → vs[k]? = some u → HdIs w ok u.1 b.old ∧ HdIs w ok u.2 b.new
structure CFit1 (c : Chg) : Prop where
  name : c.name.length ≤ 140737488355328
  old : HFit c.old
  new : HFit c.new
structure CFit (C : List Chg) : Prop where
  len : C.length ≤ 2199023255552
  ok : ∀ c ∈ C, CFit1 c
section
variable {w w' : World} {ok ok' : Nat → Prop} {v : Value} {C : List Chg}
theorem ChsIs.stay (h : ChsIs w ok v C) (hk : ∀ b, ok b → b < w.heap.size → w'.heap[b]? = w.heap[b]?) (ho : ∀ b, ok b → b < w.heap.size → ok' b) : ChsIs w' ok' v C := by
  obtain ⟨A, c, vs, hl, e, hc, hr, hh⟩ := h
  exact ⟨A, c, vs, hl, e, hc, hr.stay hk ho, fun k b u h1 h2 => ⟨(hh k b u h1 h2).1.stay hk ho, (hh k b u h1 h2).2.stay hk ho⟩⟩
theorem ChsIs.stayB (h : ChsIs w ok v C) (hb : Below w.heap.size w w') : ChsIs w' ok v C := h.stay (fun b _ hlt => hb.block b hlt) (fun _ h _ => h)
theorem ChsIs.form (h : ChsIs w ok v C) : ∃ A c, v = .slice A C.length c ∧ C.length ≤ c := by
  obtain ⟨A, c, vs, hl, e, hc, _⟩ := h
  exact ⟨A, c, e, hc⟩
theorem ChsIs.nil : ChsIs w ok (.slice none 0 0) [] := ⟨none, 0, [], rfl, rfl, Nat.le_refl _, Rd.nil, fun k b u h _ => by simp at h⟩
/-- The k-th change's three cells. -/
theorem ChsIs.ch {A : Option Addr} {n c : Nat} (h : ChsIs w ok (.slice A n c) C) (k : Nat) (hk : k < C.length) : ∃ b o x y, A = some ⟨b, o, none⟩ ∧ ok b ∧ b < w.heap.size ∧ HdIs w ok x C[k].old ∧ HdIs w ok y C[k].new ∧ ∀ j u, [strV C[k].name, x, y][j]? = some u → w.cell? ⟨b, o + k * 3 + j, none⟩ = some u := by
  obtain ⟨A', c', vs, hl, e, hc, hr, hh⟩ := h
  injection e with e1 e2 e3
  subst e1
  obtain ⟨b, o, rfl, hb, hlt, hcell⟩ := hr.at (by rw [cCells_len C vs hl]; omega)
  have hv : vs[k]? = some vs[k] := List.getElem?_eq_getElem (by omega)
  have hT : C[k]? = some C[k] := List.getElem?_eq_getElem hk
  have h1 := cCells_at C vs hl k _ _ hT hv
  exact ⟨b, o, vs[k].1, vs[k].2, rfl, hb, hlt, (hh k _ _ hT hv).1, (hh k _ _ hT hv).2, fun j u hu => by rw [Nat.add_assoc]; exact hcell _ _ (h1 j u hu)⟩
end
section
variable {w w' : World} {ok : Nat → Prop} {v : Value} {C : List Chg}
theorem ChsIs.ltB (h : ChsIs w ok v C) : ChsIs w (· < w.heap.size) v C := h.stay (fun _ _ _ => rfl) (fun _ _ hlt => hlt)
theorem ChsIs.low {B : Nat} (h : ChsIs w (· < B) v C) (hb : Below B w w') : ChsIs w' (· < B) v C := h.stay (fun b hlt _ => hb.block b hlt) (fun _ h _ => h)
end
theorem two_ret {a b c d : Value} (h1 : a = c) (h2 : b = d) : Ending.returned (.tuple #[a, b]) = .returned (.tuple #[c, d]) := by rw [h1, h2]
theorem digSz {d : Str} (h : d.length = 32) : (Tryz.prog.info? 115).map (·.size) = some (d.map B).length := by rw [List.length_map, h]; kernel_rfl
theorem brSz : (Tryz.prog.info? 138).map (·.size) = some 2 := by kernel_rfl
theorem chSz : (Tryz.prog.info? 180).map (·.size) = some 3 := by kernel_rfl
def brV (n : Str) (v : Value) : Value := .agg #[strV n, v]
def chV (n : Str) (x y : Value) : Value := .agg #[strV n, x, y]
end Go.Proofs.YtamdhaoglapnnaaGreatDoor
end

section
/- The walk of refs.heads. -/
namespace Go.Proofs.YtamdhaoglapnnaaGreatDoor
open Go.RowKit

theorem rises_true : ∀ {l : List Str}, (∀ j, j + 1 < l.length → lessS (l.getD j []) (l.getD (j + 1) []) = true) → rises l = true
  | [], _ => rfl
  | [_], _ => rfl
  | a :: b :: r, h => by
    have h0 := h 0 (by simp)
    have ih : rises (b :: r) = true := rises_true fun j hj => by have := h (j + 1) (by simpa using hj); simpa using this
    simp only [rises, Bool.and_eq_true]
    exact ⟨by simpa using h0, ih⟩
theorem rises_false : ∀ {l : List Str} {k : Nat}, k + 1 < l.length → lessS (l.getD k []) (l.getD (k + 1) []) = false → rises l = false
  | [], _, h, _ => by simp at h
  | [_], _, h, _ => by simp at h
  | a :: b :: r, 0, _, h => by simp only [rises, Bool.and_eq_false_iff]; left; simpa using h
  | a :: b :: r, k + 1, hk, h => by
    simp only [rises, Bool.and_eq_false_iff]
    right
    exact rises_false (l := b :: r) (k := k) (by simpa using hk) (by simpa using h)
theorem ret_i {a b : Int} (h : a = b) : Ending.returned (.int .i64 a) = .returned (.int .i64 b) := by rw [h]
set_option maxRecDepth 100000 in
set_option maxHeartbeats 1000000 in
theorem heads_any (l : List Str) (v : Value) (ok : Nat → Prop) (w : World) (h : HdIs w ok v l) (hf : HFit l) :
    Calls Tryz.prog 285 #[v] w fun e w' => e = .returned (.int .i64 (headsE l)) ∧ Below w.heap.size w w' := by
  obtain ⟨A, c, rfl, hc, hr⟩ := h
  have hH : HdIs w ok (.slice A l.length c) l := ⟨A, c, rfl, hc, hr⟩
  have hlen : l.length ≤ 4398046511104 := hf.len
  have hok := Lib.hid hf.ok
  clear hr hc hf
  by_cases h8 : 8 < l.length
  · have he : Hid (headsE l = 4) := Lib.hid (by unfold headsE; rw [if_pos h8])
    go_enter Tryz.func285, Tryz.ntmps285
    go_wp2
    go_ret
    exact ⟨ret_i he.out.symm, Below.refl _ _⟩
  · have h8' : l.length ≤ 8 := by omega
    have he : Hid (headsE l = if rises l then 0 else 7) := Lib.hid (by unfold headsE; rw [if_neg h8])
    replace hH := Lib.hid hH
    clear h8
    go_enter Tryz.func285, Tryz.ntmps285
    go_wp2
    go_loopw [9] (fun i wr => ∃ k : Nat, k ≤ l.length ∧ i = .int .i64 k ∧ Hid (∀ j, j + 1 < k → lessS (l.getD j []) (l.getD (j + 1) []) = true) ∧ Below w.heap.size w wr) (fun i _ => l.length - (intOf i).toNat)
    case atStart => exact ⟨0, Nat.zero_le _, rfl, Lib.hid (fun j hj => by omega), Below.refl _ _⟩
    case round =>
      obtain ⟨k, hk, rfl, hr, hb⟩ := hrel
      by_cases hlt : k < l.length
      · by_cases hk0 : k = 0
        · subst hk0
          have g0 : decide (0 < ((0 : Nat) : Int)) = false := by simp
          go_wp2
          go_quiet (fail)
          go_wp2
          go_roundw
          case rel => exact ⟨1, by omega, by go_num, Lib.hid (fun j hj => by omega), below_drewN hb nq⟩
          case measure => simp [intOf]; omega
        · have hk1 : 0 < k := by omega
          obtain ⟨b, o, rfl, _, hbl, hc2⟩ := hH.out.dig hok.out k hlt
          obtain ⟨b', o', e', _, _, hc1⟩ := hH.out.dig hok.out (k - 1) (by omega)
          cases e'
          obtain ⟨x, hx⟩ : ∃ x, x = l[k - 1] := ⟨_, rfl⟩
          obtain ⟨y, hy⟩ : ∃ y, y = l[k] := ⟨_, rfl⟩
          have hxl : x.length = 32 := by rw [hx]; exact hok.out _ (List.getElem_mem _)
          have hyl : y.length = 32 := by rw [hy]; exact hok.out _ (List.getElem_mem _)
          rw [← hx] at hc1
          rw [← hy] at hc2
          have hxy : Hid (lessS (l.getD (k - 1) []) (l.getD (k - 1 + 1) []) = lessS x y) := Lib.hid (by
            rw [hx, hy, Nat.sub_add_cancel hk1]
            simp [hlt, show k - 1 < l.length by omega])
          have hc1' : ∀ s : Over wr, ∀ j v, (x.map B)[j]? = some v → s.1.cell? ⟨b, o + (k - 1) * 32 + j, none⟩ = some v := fun s j v hv => by
            rw [(hb.trans (s.2.mono hb.size)).cell (p := ⟨b, _, none⟩) hbl]; exact hc1 j v hv
          have hc2' : ∀ s : Over wr, ∀ j v, (y.map B)[j]? = some v → s.1.cell? ⟨b, o + k * 32 + j, none⟩ = some v := fun s j v hv => by
            rw [(hb.trans (s.2.mono hb.size)).cell (p := ⟨b, _, none⟩) hbl]; exact hc2 j v hv
          have hcall := Lib.hid (less_any x y hxl hyl)
          have hsx := Lib.hid (digSz hxl)
          have hsy := Lib.hid (digSz hyl)
          replace hc1' := Lib.hid hc1'
          replace hc2' := Lib.hid hc2'
          clear hx hy hc1 hc2 hxl hyl
          obtain ⟨t, ht⟩ : ∃ t, t = lessS x y := ⟨_, rfl⟩
          rw [← ht] at hxy hcall
          clear ht
          have g0 : decide (0 < (k : Int)) = true := by simpa using hk1
          have e1 : IntKind.i64.wrap ((k : Int) - 1) = (k : Int) - 1 := IntWalk.i64_in _ (by omega)
          have e2 : (0 : Int) ≤ (k : Int) - 1 := by omega
          have e3 : (k : Int) - 1 < (l.length : Int) := by omega
          have e4 : ((k : Int) - 1).toNat = k - 1 := by omega
          have i1 : (0 : Int) ≤ (k : Int) := by omega
          have i2 : (k : Int) < (l.length : Int) := by omega
          haveI := over_nonempty wr
          go_wp2
          refine quiet_over (by kernel_rfl) (by kernel_rfl) ?_
          repeat (first
            | (refine wpQuiet_load_at 115 (.tmp 18) rfl rfl b (o + (k - 1) * 32) rfl (x.map B) (fun w hw => ?_) _ Tryz.underlying115 rfl hsx.out ?_
               · obtain ⟨s, rfl⟩ := hw
                 exact hc1'.out s
               go_frame)
            | (refine wpQuiet_load_at 115 (.tmp 22) rfl rfl b (o + k * 32) rfl (y.map B) (fun w hw => ?_) _ Tryz.underlying115 rfl hsy.out ?_
               · obtain ⟨s, rfl⟩ := hw
                 exact hc2'.out s
               go_frame)
            | go_big_quiet_step ((go_at_call 238; exact calls_over _ (hcall.out _))))
          refine wpQuiet_nil ?_
          rintro _ ⟨s, rfl⟩
          have hb2 := hb.trans (s.2.mono hb.size)
          obtain ⟨w2, hw2⟩ := s
          dsimp only at hb2 ⊢
          clear this hw2 hcall hc1' hc2'
          cases t with
          | true =>
            go_wp2
            go_roundw
            case rel =>
              refine ⟨k + 1, by omega, by go_num, Lib.hid (fun j hj => ?_), hb2⟩
              by_cases hjk : j + 1 < k
              · exact hr.out j hjk
              · obtain rfl : j = k - 1 := by omega
                exact hxy.out
            case measure => simp [intOf]; omega
          | false =>
            have hf : Hid (rises l = false) := Lib.hid (rises_false (k := k - 1) (by omega) hxy.out)
            go_wp2
            go_ret
            exact ⟨ret_i (by rw [he.out, hf.out]; rfl), hb2⟩
      · obtain rfl : k = l.length := by omega
        have hf : Hid (rises l = true) := Lib.hid (rises_true hr.out)
        go_wp2
        go_ret
        exact ⟨ret_i (by rw [he.out, hf.out]; rfl), hb⟩
end Go.Proofs.YtamdhaoglapnnaaGreatDoor
end

section
/- The walk of the reference's heads. -/
namespace Go.Proofs.YtamdhaoglapnnaaGreatDoor
open Go.RowKit

end Go.Proofs.YtamdhaoglapnnaaGreatDoor
end
end
section
/- Contracts of the library, laid by the kit for this program: those that the claim leans on. -/
namespace Go.Proofs
open Go.Shelf
def Tryz.lays169_ren : Go.Shelf.Ren := ⟨fun | 169 => 25 | n => n, fun | 70 => 48 | 9 => 9 | 0 => 0 | 72 => 51 | 37 => 49 | 127 => 78 | 3 => 3 | 5 => 5 | n => n, fun | n => n⟩
theorem Tryz.lays169 : Go.Proofs.Lays.n169 Tryz.prog Tryz.lays169_ren := {
  mixed := by kernel_rfl
  f169 := Tryz.func25.trans (congrArg some (by kernel_rfl))
  t0 := Tryz.underlying0
  a0 := Tryz.isAgg0
  z0 := Tryz.sizeOf0
  v0 := Tryz.zeroValue0
  t3 := Tryz.underlying3
  a3 := Tryz.isAgg3
  z3 := Tryz.sizeOf3
  v3 := Tryz.zeroValue3
  t9 := Tryz.underlying9
  a9 := Tryz.isAgg9
  z9 := Tryz.sizeOf9
  v9 := Tryz.zeroValue9
  t37 := Tryz.underlying49
  a37 := Tryz.isAgg49
  z37 := Tryz.sizeOf49
  v37 := Tryz.zeroValue49
  t70 := Tryz.underlying48
  a70 := Tryz.isAgg48
  z70 := Tryz.sizeOf48
  v70 := Tryz.zeroValue48
  t72 := Tryz.underlying51
  a72 := Tryz.isAgg51
  z72 := Tryz.sizeOf51
  v72 := Tryz.zeroValue51
  t127 := Tryz.underlying78
  a127 := Tryz.isAgg78
  z127 := Tryz.sizeOf78
  v127 := Tryz.zeroValue78 }
theorem Tryz.Builder_Extra_169 : Builder.Extra Tryz.prog Tryz.lays169_ren := {
  sizeBuilder := by kernel_rfl
  liesBuilder := by kernel_rfl
  t5 := Tryz.underlying5
  a5 := Tryz.isAgg5
  z5 := Tryz.sizeOf5
  v5 := Tryz.zeroValue5
  infoByte := by kernel_rfl
  cellsByte := by kernel_rfl
  sizeByte := by kernel_rfl
  neB5 := by decide }
open Go.RowKit in
theorem Tryz.Builder_String_any (B b : Nat) (l : List UInt8) (w : World) (h : Lib.IsBuilder 51 5 B b (Lib.byteCells l) w) (hBw : B ≤ w.heap.size) :
    Calls Tryz.prog 25 #[.pointer (some ⟨b, 0, none⟩)] w fun e w' => e = .returned (.string ⟨l.toArray⟩) ∧ Below B w w' := Any.Builder_String_any Tryz.lays169 Tryz.Builder_Extra_169 B b l w h hBw
def Tryz.lays125_ren : Go.Shelf.Ren := ⟨fun | 125 => 162 | 128 => 233 | 129 => 234 | n => n, fun | 46 => 77 | 3 => 3 | 51 => 298 | 53 => 83 | 4 => 4 | 5 => 5 | 9 => 9 | n => n, fun | n => n⟩
theorem Tryz.lays125 : Go.Proofs.Lays.n125 Tryz.prog Tryz.lays125_ren := {
  mixed := by kernel_rfl
  f125 := Tryz.func162.trans (congrArg some (by kernel_rfl))
  f128 := Tryz.func233.trans (congrArg some (by kernel_rfl))
  f129 := Tryz.func234.trans (congrArg some (by kernel_rfl))
  t3 := Tryz.underlying3
  a3 := Tryz.isAgg3
  z3 := Tryz.sizeOf3
  v3 := Tryz.zeroValue3
  t4 := Tryz.underlying4
  a4 := Tryz.isAgg4
  z4 := Tryz.sizeOf4
  v4 := Tryz.zeroValue4
  t5 := Tryz.underlying5
  a5 := Tryz.isAgg5
  z5 := Tryz.sizeOf5
  v5 := Tryz.zeroValue5
  t9 := Tryz.underlying9
  a9 := Tryz.isAgg9
  z9 := Tryz.sizeOf9
  v9 := Tryz.zeroValue9
  t46 := Tryz.underlying77
  a46 := Tryz.isAgg77
  z46 := Tryz.sizeOf77
  v46 := Tryz.zeroValue77
  t51 := Tryz.underlying298
  a51 := Tryz.isAgg298
  z51 := Tryz.sizeOf298
  v51 := Tryz.zeroValue298
  t53 := Tryz.underlying83
  a53 := Tryz.isAgg83
  z53 := Tryz.sizeOf83
  v53 := Tryz.zeroValue83 }
theorem Tryz.bits_Len (x : Int) (w : World) (h0 : 0 ≤ x) (h1 : x ≤ 18446744073709551615) :
    Calls Tryz.prog 162 #[.int .u64 x] w fun e w' => e = .returned (.int .i64 (Lib.bitLen x.toNat)) ∧ w' = w := Any.bits_Len Tryz.lays125 x w h0 h1
def Tryz.lays106_ren : Go.Shelf.Ren := ⟨fun | 106 => 100 | 213 => 163 | 265 => 235 | n => n, fun | 9 => 9 | 3 => 3 | n => n, fun | n => n⟩
theorem Tryz.lays106 : Go.Proofs.Lays.n106 Tryz.prog Tryz.lays106_ren := {
  mixed := by kernel_rfl
  f106 := Tryz.func100.trans (congrArg some (by kernel_rfl))
  f213 := Tryz.func163.trans (congrArg some (by kernel_rfl))
  f265 := Tryz.func235.trans (congrArg some (by kernel_rfl))
  t3 := Tryz.underlying3
  a3 := Tryz.isAgg3
  z3 := Tryz.sizeOf3
  v3 := Tryz.zeroValue3
  t9 := Tryz.underlying9
  a9 := Tryz.isAgg9
  z9 := Tryz.sizeOf9
  v9 := Tryz.zeroValue9 }
open Go.RowKit in
theorem Tryz.strings_Compare (a b : ByteArray) (w : World) :
    Calls Tryz.prog 100 #[.string a, .string b] w fun e w' => e = .returned (.int .i64 (Lib.compareBytes a.data.toList b.data.toList)) ∧ w' = w := Any.strings_Compare Tryz.lays106 a b w
def Tryz.lays137_ren : Go.Shelf.Ren := ⟨fun | 137 => 50 | 217 => 78 | 266 => 141 | n => n, fun | 9 => 9 | 5 => 5 | 3 => 3 | n => n, fun | n => n⟩
theorem Tryz.lays137 : Go.Proofs.Lays.n137 Tryz.prog Tryz.lays137_ren := {
  mixed := by kernel_rfl
  f137 := Tryz.func50.trans (congrArg some (by kernel_rfl))
  f217 := Tryz.func78.trans (congrArg some (by kernel_rfl))
  f266 := Tryz.func141.trans (congrArg some (by kernel_rfl))
  t3 := Tryz.underlying3
  a3 := Tryz.isAgg3
  z3 := Tryz.sizeOf3
  v3 := Tryz.zeroValue3
  t5 := Tryz.underlying5
  a5 := Tryz.isAgg5
  z5 := Tryz.sizeOf5
  v5 := Tryz.zeroValue5
  t9 := Tryz.underlying9
  a9 := Tryz.isAgg9
  z9 := Tryz.sizeOf9
  v9 := Tryz.zeroValue9 }
open Go.RowKit in
theorem Tryz.strings_IndexByte (s : ByteArray) (c : Int) (w : World) :
    Calls Tryz.prog 50 #[.string s, .int .u8 c] w fun e w' => e = .returned (.int .i64 (Lib.indexByte s.data.toList c.toNat.toUInt8)) ∧ w' = w := Any.strings_IndexByte Tryz.lays137 s c w
def Tryz.laysM171_ren : Go.Shelf.Ren := ⟨fun | 171 => 36 | 243 => 63 | 246 => 105 | 283 => 169 | 284 => 170 | 285 => 171 | 286 => 172 | 129 => 234 | 317 => 241 | 318 => 242 | 319 => 243 | 320 => 244 | 337 => 297 | 338 => 298 | n => n, fun | 3 => 3 | 9 => 9 | 2 => 2 | 4 => 4 | 171 => 233 | 0 => 0 | 53 => 83 | 37 => 49 | 5 => 5 | 173 => 236 | 212 => 326 | 51 => 298 | 20 => 20 | 213 => 327 | 46 => 77 | 232 => 114 | 233 => 302 | n => n, fun | 17 => 3 | 18 => 6 | 19 => 7 | n => n⟩
theorem Tryz.laysM171 : Go.Proofs.LaysM.n171 Tryz.prog Tryz.laysM171_ren := {
  mixed := by kernel_rfl
  f129 := Tryz.func234.trans (congrArg some (by kernel_rfl))
  f171 := Tryz.func36.trans (congrArg some (by kernel_rfl))
  f243 := Tryz.func63.trans (congrArg some (by kernel_rfl))
  f246 := Tryz.func105.trans (congrArg some (by kernel_rfl))
  f283 := Tryz.func169.trans (congrArg some (by kernel_rfl))
  f284 := Tryz.func170.trans (congrArg some (by kernel_rfl))
  f285 := Tryz.func171.trans (congrArg some (by kernel_rfl))
  f286 := Tryz.func172.trans (congrArg some (by kernel_rfl))
  f317 := Tryz.func241.trans (congrArg some (by kernel_rfl))
  f318 := Tryz.func242.trans (congrArg some (by kernel_rfl))
  f319 := Tryz.func243.trans (congrArg some (by kernel_rfl))
  f320 := Tryz.func244.trans (congrArg some (by kernel_rfl))
  f337 := Tryz.func297.trans (congrArg some (by kernel_rfl))
  f338 := Tryz.func298.trans (congrArg some (by kernel_rfl))
  t0 := Tryz.underlying0
  a0 := Tryz.isAgg0
  z0 := Tryz.sizeOf0
  v0 := Tryz.zeroValue0
  t2 := Tryz.underlying2
  a2 := Tryz.isAgg2
  z2 := Tryz.sizeOf2
  v2 := Tryz.zeroValue2
  t3 := Tryz.underlying3
  a3 := Tryz.isAgg3
  z3 := Tryz.sizeOf3
  v3 := Tryz.zeroValue3
  t4 := Tryz.underlying4
  a4 := Tryz.isAgg4
  z4 := Tryz.sizeOf4
  v4 := Tryz.zeroValue4
  t5 := Tryz.underlying5
  a5 := Tryz.isAgg5
  z5 := Tryz.sizeOf5
  v5 := Tryz.zeroValue5
  t9 := Tryz.underlying9
  a9 := Tryz.isAgg9
  z9 := Tryz.sizeOf9
  v9 := Tryz.zeroValue9
  t20 := Tryz.underlying20
  a20 := Tryz.isAgg20
  z20 := Tryz.sizeOf20
  v20 := Tryz.zeroValue20
  t37 := Tryz.underlying49
  a37 := Tryz.isAgg49
  z37 := Tryz.sizeOf49
  v37 := Tryz.zeroValue49
  t46 := Tryz.underlying77
  a46 := Tryz.isAgg77
  z46 := Tryz.sizeOf77
  v46 := Tryz.zeroValue77
  t51 := Tryz.underlying298
  a51 := Tryz.isAgg298
  z51 := Tryz.sizeOf298
  v51 := Tryz.zeroValue298
  t53 := Tryz.underlying83
  a53 := Tryz.isAgg83
  z53 := Tryz.sizeOf83
  v53 := Tryz.zeroValue83
  t171 := Tryz.underlying233
  a171 := Tryz.isAgg233
  z171 := Tryz.sizeOf233
  v171 := Tryz.zeroValue233
  t173 := Tryz.underlying236
  a173 := Tryz.isAgg236
  z173 := Tryz.sizeOf236
  v173 := Tryz.zeroValue236
  t212 := Tryz.underlying326
  a212 := Tryz.isAgg326
  z212 := Tryz.sizeOf326
  v212 := Tryz.zeroValue326
  t213 := Tryz.underlying327
  a213 := Tryz.isAgg327
  z213 := Tryz.sizeOf327
  t232 := Tryz.underlying114
  a232 := Tryz.isAgg114
  z232 := Tryz.sizeOf114
  v232 := Tryz.zeroValue114
  t233 := Tryz.underlying302
  a233 := Tryz.isAgg302
  z233 := Tryz.sizeOf302
  v233 := Tryz.zeroValue302
  g17 := by kernel_rfl
  g18 := by kernel_rfl
  g19 := by kernel_rfl
  i0 := by kernel_rfl
  i2 := by kernel_rfl
  i3 := by kernel_rfl
  i4 := by kernel_rfl
  i5 := by kernel_rfl
  i9 := by kernel_rfl
  i20 := by kernel_rfl
  i37 := by kernel_rfl
  i46 := by kernel_rfl
  i51 := by kernel_rfl
  i53 := by kernel_rfl
  i171 := by kernel_rfl
  i173 := by kernel_rfl
  i212 := by kernel_rfl
  i232 := by kernel_rfl
  i233 := by kernel_rfl
  m17 := by kernel_rfl
  m18 := by kernel_rfl
  m19 := by kernel_rfl }
open Go.RowKit Go.Sort Go.Lib in
theorem Tryz.strconv_Itoa (n : Int) (h0 : -9223372036854775808 ≤ n) (h1 : n ≤ 9223372036854775807) (w : World) (htab : Lib.TabIs Tryz.prog w "internal/strconv.uint64pow10" .u64 Lib.pow10Tab) :
    Calls Tryz.prog 36 #[.int .i64 n] w fun e w' => e = .returned (.string ⟨(Lib.itoa n).toArray⟩) ∧ ∃ k os, w' = grow (w.drewN k) os := Any.strconv_Itoa Tryz.laysM171 n h0 h1 w htab
def Tryz.laysM316_ren : Go.Shelf.Ren := ⟨fun | 316 => 211 | n => n, fun | 9 => 9 | 3 => 3 | 4 => 4 | 37 => 49 | 0 => 0 | 127 => 78 | 5 => 5 | n => n, fun | n => n⟩
theorem Tryz.laysM316 : Go.Proofs.LaysM.n316 Tryz.prog Tryz.laysM316_ren := {
  mixed := by kernel_rfl
  f316 := Tryz.func211.trans (congrArg some (by kernel_rfl))
  t0 := Tryz.underlying0
  a0 := Tryz.isAgg0
  z0 := Tryz.sizeOf0
  v0 := Tryz.zeroValue0
  t3 := Tryz.underlying3
  a3 := Tryz.isAgg3
  z3 := Tryz.sizeOf3
  v3 := Tryz.zeroValue3
  t4 := Tryz.underlying4
  a4 := Tryz.isAgg4
  z4 := Tryz.sizeOf4
  v4 := Tryz.zeroValue4
  t9 := Tryz.underlying9
  a9 := Tryz.isAgg9
  z9 := Tryz.sizeOf9
  v9 := Tryz.zeroValue9
  t37 := Tryz.underlying49
  a37 := Tryz.isAgg49
  z37 := Tryz.sizeOf49
  v37 := Tryz.zeroValue49
  t127 := Tryz.underlying78
  a127 := Tryz.isAgg78
  z127 := Tryz.sizeOf78
  v127 := Tryz.zeroValue78
  t5 := Tryz.underlying5
  a5 := Tryz.isAgg5
  z5 := Tryz.sizeOf5
  v5 := Tryz.zeroValue5
  i0 := by kernel_rfl
  i3 := by kernel_rfl
  i4 := by kernel_rfl
  i5 := by kernel_rfl
  i9 := by kernel_rfl
  i37 := by kernel_rfl
  i127 := by kernel_rfl }
open Go.RowKit in
theorem Tryz.stringslite_Clone (s : ByteArray) (w : World) (hlim : s.size ≤ 281474976710656) :
    Calls Tryz.prog 211 #[.string s] w fun e w' => e = .returned (.string s) ∧ Below w.heap.size w w' := Any.stringslite_Clone Tryz.laysM316 s w hlim
def Tryz.laysM279_ren : Go.Shelf.Ren := ⟨fun | 279 => 144 | 316 => 211 | n => n, fun | 9 => 9 | 168 => 204 | 75 => 53 | 210 => 294 | 3 => 3 | 4 => 4 | 37 => 49 | 0 => 0 | 127 => 78 | 80 => 58 | 5 => 5 | n => n, fun | 15 => 1 | n => n⟩
theorem Tryz.laysM279 : Go.Proofs.LaysM.n279 Tryz.prog Tryz.laysM279_ren := {
  mixed := by kernel_rfl
  f279 := Tryz.func144.trans (congrArg some (by kernel_rfl))
  f316 := Tryz.func211.trans (congrArg some (by kernel_rfl))
  t0 := Tryz.underlying0
  a0 := Tryz.isAgg0
  z0 := Tryz.sizeOf0
  v0 := Tryz.zeroValue0
  t3 := Tryz.underlying3
  a3 := Tryz.isAgg3
  z3 := Tryz.sizeOf3
  v3 := Tryz.zeroValue3
  t4 := Tryz.underlying4
  a4 := Tryz.isAgg4
  z4 := Tryz.sizeOf4
  v4 := Tryz.zeroValue4
  t9 := Tryz.underlying9
  a9 := Tryz.isAgg9
  z9 := Tryz.sizeOf9
  v9 := Tryz.zeroValue9
  t37 := Tryz.underlying49
  a37 := Tryz.isAgg49
  z37 := Tryz.sizeOf49
  v37 := Tryz.zeroValue49
  t75 := Tryz.underlying53
  a75 := Tryz.isAgg53
  z75 := Tryz.sizeOf53
  v75 := Tryz.zeroValue53
  t127 := Tryz.underlying78
  a127 := Tryz.isAgg78
  z127 := Tryz.sizeOf78
  v127 := Tryz.zeroValue78
  t168 := Tryz.underlying204
  a168 := Tryz.isAgg204
  z168 := Tryz.sizeOf204
  v168 := Tryz.zeroValue204
  t210 := Tryz.underlying294
  a210 := Tryz.isAgg294
  z210 := Tryz.sizeOf294
  v210 := Tryz.zeroValue294
  g15 := by kernel_rfl
  t5 := Tryz.underlying5
  a5 := Tryz.isAgg5
  z5 := Tryz.sizeOf5
  v5 := Tryz.zeroValue5
  t80 := Tryz.underlying58
  a80 := Tryz.isAgg58
  z80 := Tryz.sizeOf58
  v80 := Tryz.zeroValue58
  i0 := by kernel_rfl
  i3 := by kernel_rfl
  i4 := by kernel_rfl
  i5 := by kernel_rfl
  i9 := by kernel_rfl
  i37 := by kernel_rfl
  i75 := by kernel_rfl
  i80 := by kernel_rfl
  i127 := by kernel_rfl
  i168 := by kernel_rfl
  i210 := by kernel_rfl
  m15 := by kernel_rfl }
open Go.RowKit in
theorem Tryz.strconv_syntaxError (fn s : ByteArray) (ev : Value) (w : World) (hlim : s.size ≤ 281474976710656) (hv : w.cell? ⟨1, 0, none⟩ = some ev) (hev : ev = .nilIface ∨ ∃ te pe, ev = .iface te pe) :
    Calls Tryz.prog 144 #[.string fn, .string s] w fun e w' => ∃ N, e = .returned (.pointer (some ⟨N, 0, none⟩)) ∧ w.heap.size ≤ N ∧ w'.heap[N]? = some (.cells #[.string fn, .string s, ev] 294 (0, 0)) ∧ Below w.heap.size w w' := Any.strconv_syntaxError Tryz.laysM279 fn s ev w hlim hv hev
def Tryz.laysC245_ren : Go.Shelf.Ren := ⟨fun | 245 => 81 | 279 => 144 | 280 => 145 | 281 => 146 | 282 => 147 | 316 => 211 | 171 => 36 | 205 => 212 | 243 => 63 | 246 => 105 | 283 => 169 | 284 => 170 | 285 => 171 | 286 => 172 | 129 => 234 | 317 => 241 | 318 => 242 | 319 => 243 | 320 => 244 | 337 => 297 | 338 => 298 | n => n, fun | 9 => 9 | 3 => 3 | 75 => 53 | 167 => 202 | 4 => 4 | 168 => 204 | 210 => 294 | 37 => 49 | 0 => 0 | 127 => 78 | 145 => 379 | 143 => 377 | 2 => 2 | 171 => 233 | 53 => 83 | 5 => 5 | 173 => 236 | 212 => 326 | 51 => 298 | 20 => 20 | 213 => 327 | 46 => 77 | 232 => 114 | 233 => 302 | 80 => 58 | n => n, fun | 15 => 1 | 16 => 2 | 17 => 3 | 18 => 6 | 19 => 7 | n => n⟩
theorem Tryz.laysC245 : Go.Proofs.LaysC.n245 Tryz.prog Tryz.laysC245_ren := {
  mixed := by kernel_rfl
  f129 := Tryz.func234.trans (congrArg some (by kernel_rfl))
  f171 := Tryz.func36.trans (congrArg some (by kernel_rfl))
  f205 := Tryz.func212.trans (congrArg some (by kernel_rfl))
  f243 := Tryz.func63.trans (congrArg some (by kernel_rfl))
  f245 := Tryz.func81.trans (congrArg some (by kernel_rfl))
  f246 := Tryz.func105.trans (congrArg some (by kernel_rfl))
  f279 := Tryz.func144.trans (congrArg some (by kernel_rfl))
  f280 := Tryz.func145.trans (congrArg some (by kernel_rfl))
  f281 := Tryz.func146.trans (congrArg some (by kernel_rfl))
  f282 := Tryz.func147.trans (congrArg some (by kernel_rfl))
  f283 := Tryz.func169.trans (congrArg some (by kernel_rfl))
  f284 := Tryz.func170.trans (congrArg some (by kernel_rfl))
  f285 := Tryz.func171.trans (congrArg some (by kernel_rfl))
  f286 := Tryz.func172.trans (congrArg some (by kernel_rfl))
  f316 := Tryz.func211.trans (congrArg some (by kernel_rfl))
  f317 := Tryz.func241.trans (congrArg some (by kernel_rfl))
  f318 := Tryz.func242.trans (congrArg some (by kernel_rfl))
  f319 := Tryz.func243.trans (congrArg some (by kernel_rfl))
  f320 := Tryz.func244.trans (congrArg some (by kernel_rfl))
  f337 := Tryz.func297.trans (congrArg some (by kernel_rfl))
  f338 := Tryz.func298.trans (congrArg some (by kernel_rfl))
  t0 := Tryz.underlying0
  a0 := Tryz.isAgg0
  z0 := Tryz.sizeOf0
  v0 := Tryz.zeroValue0
  t2 := Tryz.underlying2
  a2 := Tryz.isAgg2
  z2 := Tryz.sizeOf2
  v2 := Tryz.zeroValue2
  t3 := Tryz.underlying3
  a3 := Tryz.isAgg3
  z3 := Tryz.sizeOf3
  v3 := Tryz.zeroValue3
  t4 := Tryz.underlying4
  a4 := Tryz.isAgg4
  z4 := Tryz.sizeOf4
  v4 := Tryz.zeroValue4
  t5 := Tryz.underlying5
  a5 := Tryz.isAgg5
  z5 := Tryz.sizeOf5
  v5 := Tryz.zeroValue5
  t9 := Tryz.underlying9
  a9 := Tryz.isAgg9
  z9 := Tryz.sizeOf9
  v9 := Tryz.zeroValue9
  t20 := Tryz.underlying20
  a20 := Tryz.isAgg20
  z20 := Tryz.sizeOf20
  v20 := Tryz.zeroValue20
  t37 := Tryz.underlying49
  a37 := Tryz.isAgg49
  z37 := Tryz.sizeOf49
  v37 := Tryz.zeroValue49
  t46 := Tryz.underlying77
  a46 := Tryz.isAgg77
  z46 := Tryz.sizeOf77
  v46 := Tryz.zeroValue77
  t51 := Tryz.underlying298
  a51 := Tryz.isAgg298
  z51 := Tryz.sizeOf298
  v51 := Tryz.zeroValue298
  t53 := Tryz.underlying83
  a53 := Tryz.isAgg83
  z53 := Tryz.sizeOf83
  v53 := Tryz.zeroValue83
  t75 := Tryz.underlying53
  a75 := Tryz.isAgg53
  z75 := Tryz.sizeOf53
  v75 := Tryz.zeroValue53
  t127 := Tryz.underlying78
  a127 := Tryz.isAgg78
  z127 := Tryz.sizeOf78
  v127 := Tryz.zeroValue78
  t143 := Tryz.underlying377
  a143 := Tryz.isAgg377
  z143 := Tryz.sizeOf377
  v143 := Tryz.zeroValue377
  t145 := Tryz.underlying379
  a145 := Tryz.isAgg379
  z145 := Tryz.sizeOf379
  v145 := Tryz.zeroValue379
  t167 := Tryz.underlying202
  a167 := Tryz.isAgg202
  z167 := Tryz.sizeOf202
  v167 := Tryz.zeroValue202
  t168 := Tryz.underlying204
  a168 := Tryz.isAgg204
  z168 := Tryz.sizeOf204
  v168 := Tryz.zeroValue204
  t171 := Tryz.underlying233
  a171 := Tryz.isAgg233
  z171 := Tryz.sizeOf233
  v171 := Tryz.zeroValue233
  t173 := Tryz.underlying236
  a173 := Tryz.isAgg236
  z173 := Tryz.sizeOf236
  v173 := Tryz.zeroValue236
  t210 := Tryz.underlying294
  a210 := Tryz.isAgg294
  z210 := Tryz.sizeOf294
  v210 := Tryz.zeroValue294
  t212 := Tryz.underlying326
  a212 := Tryz.isAgg326
  z212 := Tryz.sizeOf326
  v212 := Tryz.zeroValue326
  t213 := Tryz.underlying327
  a213 := Tryz.isAgg327
  z213 := Tryz.sizeOf327
  t232 := Tryz.underlying114
  a232 := Tryz.isAgg114
  z232 := Tryz.sizeOf114
  v232 := Tryz.zeroValue114
  t233 := Tryz.underlying302
  a233 := Tryz.isAgg302
  z233 := Tryz.sizeOf302
  v233 := Tryz.zeroValue302
  g15 := by kernel_rfl
  g16 := by kernel_rfl
  g17 := by kernel_rfl
  g18 := by kernel_rfl
  g19 := by kernel_rfl
  t80 := Tryz.underlying58
  a80 := Tryz.isAgg58
  z80 := Tryz.sizeOf58
  v80 := Tryz.zeroValue58
  i0 := by kernel_rfl
  i2 := by kernel_rfl
  i3 := by kernel_rfl
  i4 := by kernel_rfl
  i5 := by kernel_rfl
  i9 := by kernel_rfl
  i20 := by kernel_rfl
  i37 := by kernel_rfl
  i46 := by kernel_rfl
  i51 := by kernel_rfl
  i53 := by kernel_rfl
  i75 := by kernel_rfl
  i80 := by kernel_rfl
  i127 := by kernel_rfl
  i143 := by kernel_rfl
  i145 := by kernel_rfl
  i167 := by kernel_rfl
  i168 := by kernel_rfl
  i171 := by kernel_rfl
  i173 := by kernel_rfl
  i210 := by kernel_rfl
  i212 := by kernel_rfl
  i232 := by kernel_rfl
  i233 := by kernel_rfl
  m15 := by kernel_rfl
  m16 := by kernel_rfl
  m17 := by kernel_rfl
  m18 := by kernel_rfl
  m19 := by kernel_rfl
  c0 := by kernel_rfl
  c2 := by kernel_rfl
  c3 := by kernel_rfl
  c4 := by kernel_rfl
  c5 := by kernel_rfl
  c9 := by kernel_rfl
  c20 := by kernel_rfl
  c37 := by kernel_rfl
  c46 := by kernel_rfl
  c51 := by kernel_rfl
  c53 := by kernel_rfl
  c75 := by kernel_rfl
  c80 := by kernel_rfl
  c127 := by kernel_rfl
  c143 := by kernel_rfl
  c145 := by kernel_rfl
  c167 := by kernel_rfl
  c168 := by kernel_rfl
  c171 := by kernel_rfl
  c173 := by kernel_rfl
  c210 := by kernel_rfl
  c212 := by kernel_rfl
  c213 := by kernel_rfl
  c232 := by kernel_rfl
  c233 := by kernel_rfl }
open Go.RowKit in
theorem Tryz.strconv_toError_syntax (fn s : ByteArray) (base bits : Int) (ev : Value) (w : World) (hlim : s.size ≤ 281474976710656) (hv : w.cell? ⟨1, 0, none⟩ = some ev) (hev : ev = .nilIface ∨ ∃ te pe, ev = .iface te pe) :
    Calls Tryz.prog 81 #[.string fn, .string s, .int .i64 base, .int .i64 bits, .iface 202 (.int .i64 2)] w fun e w' => ∃ N, e = .returned (.iface 204 (.pointer (some ⟨N, 0, none⟩))) ∧ w.heap.size ≤ N ∧ w'.heap[N]? = some (.cells #[.string fn, .string s, ev] 294 (0, 0)) ∧ Below w.heap.size w w' := Any.strconv_toError_syntax Tryz.laysC245 fn s base bits ev w hlim hv hev
def Tryz.lays321_ren : Go.Shelf.Ren := ⟨fun | 321 => 142 | n => n, fun | 5 => 5 | n => n, fun | n => n⟩
theorem Tryz.lays321 : Go.Proofs.Lays.n321 Tryz.prog Tryz.lays321_ren := {
  mixed := by kernel_rfl
  f321 := Tryz.func142.trans (congrArg some (by kernel_rfl))
  t5 := Tryz.underlying5
  a5 := Tryz.isAgg5
  z5 := Tryz.sizeOf5
  v5 := Tryz.zeroValue5 }
open Go.RowKit in
theorem Tryz.internal_strconv_lower (c : Int) (w : World) :
    Calls Tryz.prog 142 #[.int .u8 c] w fun e w' => e = .returned (.int .u8 (bits .or .u8 c 32)) ∧ w' = w := Any.internal_strconv_lower Tryz.lays321 c w
def Tryz.lays143_ren : Go.Shelf.Ren := ⟨fun | 143 => 284 | 219 => 328 | 217 => 78 | 225 => 349 | 224 => 350 | 267 => 351 | 266 => 141 | 314 => 369 | n => n, fun | 9 => 9 | 3 => 3 | 4 => 4 | 5 => 5 | 46 => 77 | 146 => 456 | 51 => 298 | n => n, fun | 1 => 0 | n => n⟩
theorem Tryz.lays143 : Go.Proofs.Lays.n143 Tryz.prog Tryz.lays143_ren := {
  mixed := by kernel_rfl
  f143 := Tryz.func284.trans (congrArg some (by kernel_rfl))
  f217 := Tryz.func78.trans (congrArg some (by kernel_rfl))
  f219 := Tryz.func328.trans (congrArg some (by kernel_rfl))
  f224 := Tryz.func350.trans (congrArg some (by kernel_rfl))
  f225 := Tryz.func349.trans (congrArg some (by kernel_rfl))
  f266 := Tryz.func141.trans (congrArg some (by kernel_rfl))
  f267 := Tryz.func351.trans (congrArg some (by kernel_rfl))
  f314 := Tryz.func369.trans (congrArg some (by kernel_rfl))
  t3 := Tryz.underlying3
  a3 := Tryz.isAgg3
  z3 := Tryz.sizeOf3
  v3 := Tryz.zeroValue3
  t4 := Tryz.underlying4
  a4 := Tryz.isAgg4
  z4 := Tryz.sizeOf4
  v4 := Tryz.zeroValue4
  t5 := Tryz.underlying5
  a5 := Tryz.isAgg5
  z5 := Tryz.sizeOf5
  v5 := Tryz.zeroValue5
  t9 := Tryz.underlying9
  a9 := Tryz.isAgg9
  z9 := Tryz.sizeOf9
  v9 := Tryz.zeroValue9
  t46 := Tryz.underlying77
  a46 := Tryz.isAgg77
  z46 := Tryz.sizeOf77
  v46 := Tryz.zeroValue77
  t51 := Tryz.underlying298
  a51 := Tryz.isAgg298
  z51 := Tryz.sizeOf298
  v51 := Tryz.zeroValue298
  t146 := Tryz.underlying456
  a146 := Tryz.isAgg456
  z146 := Tryz.sizeOf456
  v146 := Tryz.zeroValue456
  g1 := by kernel_rfl }
open Go.RowKit Go.Lib in
theorem Tryz.strings_Index_one (s : ByteArray) (c : UInt8) (w : World) :
    Calls Tryz.prog 284 #[.string s, .string ⟨#[c]⟩] w fun e w' => e = .returned (.int .i64 (Lib.indexByte s.data.toList c)) ∧ w' = w := Any.strings_Index_one Tryz.lays143 s c w
def Tryz.lays138_ren : Go.Shelf.Ren := ⟨fun | 138 => 283 | 195 => 325 | 218 => 327 | 143 => 284 | 219 => 328 | 217 => 78 | 225 => 349 | 224 => 350 | 267 => 351 | 266 => 141 | 314 => 369 | n => n, fun | 9 => 9 | 3 => 3 | 4 => 4 | 5 => 5 | 0 => 0 | 46 => 77 | 146 => 456 | 51 => 298 | n => n, fun | 1 => 0 | n => n⟩
theorem Tryz.lays138 : Go.Proofs.Lays.n138 Tryz.prog Tryz.lays138_ren := {
  mixed := by kernel_rfl
  f138 := Tryz.func283.trans (congrArg some (by kernel_rfl))
  f143 := Tryz.func284.trans (congrArg some (by kernel_rfl))
  f195 := Tryz.func325.trans (congrArg some (by kernel_rfl))
  f217 := Tryz.func78.trans (congrArg some (by kernel_rfl))
  f218 := Tryz.func327.trans (congrArg some (by kernel_rfl))
  f219 := Tryz.func328.trans (congrArg some (by kernel_rfl))
  f224 := Tryz.func350.trans (congrArg some (by kernel_rfl))
  f225 := Tryz.func349.trans (congrArg some (by kernel_rfl))
  f266 := Tryz.func141.trans (congrArg some (by kernel_rfl))
  f267 := Tryz.func351.trans (congrArg some (by kernel_rfl))
  f314 := Tryz.func369.trans (congrArg some (by kernel_rfl))
  t0 := Tryz.underlying0
  a0 := Tryz.isAgg0
  z0 := Tryz.sizeOf0
  v0 := Tryz.zeroValue0
  t3 := Tryz.underlying3
  a3 := Tryz.isAgg3
  z3 := Tryz.sizeOf3
  v3 := Tryz.zeroValue3
  t4 := Tryz.underlying4
  a4 := Tryz.isAgg4
  z4 := Tryz.sizeOf4
  v4 := Tryz.zeroValue4
  t5 := Tryz.underlying5
  a5 := Tryz.isAgg5
  z5 := Tryz.sizeOf5
  v5 := Tryz.zeroValue5
  t9 := Tryz.underlying9
  a9 := Tryz.isAgg9
  z9 := Tryz.sizeOf9
  v9 := Tryz.zeroValue9
  t46 := Tryz.underlying77
  a46 := Tryz.isAgg77
  z46 := Tryz.sizeOf77
  v46 := Tryz.zeroValue77
  t51 := Tryz.underlying298
  a51 := Tryz.isAgg298
  z51 := Tryz.sizeOf298
  v51 := Tryz.zeroValue298
  t146 := Tryz.underlying456
  a146 := Tryz.isAgg456
  z146 := Tryz.sizeOf456
  v146 := Tryz.zeroValue456
  g1 := by kernel_rfl }
open Go.RowKit Go.Lib in
theorem Tryz.strings_Count_one (s : ByteArray) (c : UInt8) (w : World) :
    Calls Tryz.prog 283 #[.string s, .string ⟨#[c]⟩] w fun e w' => e = .returned (.int .i64 (Lib.countByte s.data.toList c)) ∧ w' = w := Any.strings_Count_one Tryz.lays138 s c w
def Tryz.lays99_ren : Go.Shelf.Ren := ⟨fun | 99 => 97 | 206 => 160 | n => n, fun | 9 => 9 | 4 => 4 | 3 => 3 | n => n, fun | n => n⟩
theorem Tryz.lays99 : Go.Proofs.Lays.n99 Tryz.prog Tryz.lays99_ren := {
  mixed := by kernel_rfl
  f99 := Tryz.func97.trans (congrArg some (by kernel_rfl))
  f206 := Tryz.func160.trans (congrArg some (by kernel_rfl))
  t3 := Tryz.underlying3
  a3 := Tryz.isAgg3
  z3 := Tryz.sizeOf3
  v3 := Tryz.zeroValue3
  t4 := Tryz.underlying4
  a4 := Tryz.isAgg4
  z4 := Tryz.sizeOf4
  v4 := Tryz.zeroValue4
  t9 := Tryz.underlying9
  a9 := Tryz.isAgg9
  z9 := Tryz.sizeOf9
  v9 := Tryz.zeroValue9 }
open Go.RowKit Go.Lib in
theorem Tryz.strings_HasPrefix (s p : ByteArray) (w : World) :
    Calls Tryz.prog 97 #[.string s, .string p] w fun e w' => e = .returned (.bool (Lib.hasPrefix s.data.toList p.data.toList)) ∧ w' = w := Any.strings_HasPrefix Tryz.lays99 s p w
def Tryz.lays102_ren : Go.Shelf.Ren := ⟨fun | 102 => 29 | 209 => 51 | 207 => 79 | n => n, fun | 9 => 9 | 4 => 4 | 3 => 3 | n => n, fun | n => n⟩
theorem Tryz.lays102 : Go.Proofs.Lays.n102 Tryz.prog Tryz.lays102_ren := {
  mixed := by kernel_rfl
  f102 := Tryz.func29.trans (congrArg some (by kernel_rfl))
  f207 := Tryz.func79.trans (congrArg some (by kernel_rfl))
  f209 := Tryz.func51.trans (congrArg some (by kernel_rfl))
  t3 := Tryz.underlying3
  a3 := Tryz.isAgg3
  z3 := Tryz.sizeOf3
  v3 := Tryz.zeroValue3
  t4 := Tryz.underlying4
  a4 := Tryz.isAgg4
  z4 := Tryz.sizeOf4
  v4 := Tryz.zeroValue4
  t9 := Tryz.underlying9
  a9 := Tryz.isAgg9
  z9 := Tryz.sizeOf9
  v9 := Tryz.zeroValue9 }
open Go.RowKit Go.Lib in
theorem Tryz.strings_TrimSuffix (s p : ByteArray) (w : World) (hs : s.size ≤ 9223372036854775807) :
    Calls Tryz.prog 29 #[.string s, .string p] w fun e w' => e = .returned (.string ⟨(Lib.trimSuffix s.data.toList p.data.toList).toArray⟩) ∧ w' = w := Any.strings_TrimSuffix Tryz.lays102 s p w hs
end Go.Proofs
end
section
/- The library's Itoa. -/
namespace Go.Proofs.YtamdhaoglapnnaaGreatDoor
open Go.RowKit

/-- The library's table of powers lies in memory. -/
def TabK (w : World) : Prop := Lib.TabIs Tryz.prog w "internal/strconv.uint64pow10" .u64 Lib.pow10Tab
theorem gPow : Tryz.prog.globalNamed "internal/strconv.uint64pow10" = some 3 := by kernel_rfl
theorem tabK_below {w w' : World} (h : TabK w) (hb : Below w.heap.size w w') : TabK w' := Joins.tab_stays gPow h hb (Nat.le_refl _)
theorem itoa_any (n : Nat) (hn : n ≤ 1125899906842624) (w : World) (hT : TabK w) :
    Calls Tryz.prog 36 #[.int .i64 (n : Int)] w fun e w' => e = .returned (.string ⟨(Lib.decDigits n).toArray⟩) ∧ Below w.heap.size w w' := by
  refine (Tryz.strconv_Itoa (n : Int) (by omega) (by omega) w hT).mono ?_
  rintro e w' ⟨rfl, k, os, rfl⟩
  rw [Lib.itoa_nonneg]
  exact ⟨rfl, Lib.below_grow _ _ (Nat.le_refl _) _ _⟩
end Go.Proofs.YtamdhaoglapnnaaGreatDoor
end
