/- The disk as plain data: files by names, what calls do with them, what a crash leaves. -/
import Derived.Maps.OwnSet
import Derived.Maps.Ext
import Derived.Maps.StringElems
import Derived.Sort.KeysCollected
namespace Go.Proofs.YtlenmkemjaaaoaaDoor
open Go.Maps

/-- Files by names, as a map's datum. -/
abbrev DM := DataW Unit
def strD : DM → List UInt8
  | .lit (.string s) => s
  | _ => []
def litS (t : List UInt8) : DM := .lit (.string t)
def fHas (D : DM) (k : List UInt8) : Bool := Maps.has D (.string k)
def fS (D : DM) (k : List UInt8) : List UInt8 := strD (D.atKey (.string k) (litS []))
def fPut (D : DM) (k t : List UInt8) : DM := D.put (.string k) (litS t)
def fDel (D : DM) (k : List UInt8) : DM := D.del (.string k)
def fLen (D : DM) : Nat := Maps.size D
def fEs : DM → List (Lit × DM)
  | .map es => es
  | _ => []
def lenD (p : Lit × DM) : Nat := (strD p.2).length
def fSum (D : DM) : Nat := ((fEs D).map lenD).sum
def fNames (D : DM) : List (List UInt8) := (strKeys D).mergeSort leB
def fFiles (D : DM) : List (List UInt8 × List UInt8) := (fNames D).map fun k => (k, fS D k)
def fNil : DM := .map []
/-- What the datum of a map of strings is. -/
def StrMap (D : DM) : Prop := ∃ es, D = .map es ∧ es.Pairwise (fun p q => p.1 ≠ q.1) ∧ ∀ p ∈ es, ∃ k v : List UInt8, p = (.string k, litS v)

theorem StrMap.nil : StrMap fNil := ⟨[], rfl, List.Pairwise.nil, by simp⟩
theorem StrMap.tidy {D : DM} (h : StrMap D) : Tidy D := by obtain ⟨es, rfl, hp, _⟩ := h; exact ⟨es, rfl, hp⟩
theorem StrMap.isMap {D : DM} (h : StrMap D) : IsMap D := h.tidy.isMap
theorem keyLit (k : List UInt8) : WideAt.IsKeyLit (.string k) := trivial
theorem StrMap.put {D : DM} (h : StrMap D) (k t : List UInt8) : StrMap (fPut D k t) := by
  have ht := h.tidy.put (keyLit k) (litS t)
  obtain ⟨es, rfl, hp, hs⟩ := h
  obtain ⟨es', he, hp'⟩ := ht
  refine ⟨es', he, hp', fun p hm => ?_⟩
  simp only [DataW.put, DataW.map.injEq] at he
  rw [← he] at hm
  have hmem : ∀ (l : List (Lit × DM)) (x p), p ∈ DataW.insert x l → p = x ∨ p ∈ l := by
    intro l x p
    induction l with
    | nil => intro h; simp only [DataW.insert, List.mem_singleton] at h; exact .inl h
    | cons y r ih =>
      unfold DataW.insert
      split
      · intro h; simpa using h
      · intro h
        rcases List.mem_cons.1 h with h | h
        · exact .inr (by simp [h])
        · rcases ih h with h | h
          · exact .inl h
          · exact .inr (by simp [h])
  rcases hmem _ _ _ hm with h | h
  · exact ⟨k, t, h⟩
  · exact hs p (List.mem_filter.1 h).1
theorem StrMap.del {D : DM} (h : StrMap D) (k : List UInt8) : StrMap (fDel D k) := by
  obtain ⟨es, rfl, hp, hs⟩ := h
  exact ⟨_, rfl, hp.filter _, fun p hm => hs p (List.mem_filter.1 hm).1⟩

theorem sum_insert (f : Lit × DM → Nat) (x : Lit × DM) : ∀ l : List (Lit × DM), ((DataW.insert x l).map f).sum = f x + (l.map f).sum
  | [] => by simp [DataW.insert]
  | y :: r => by
    unfold DataW.insert
    split
    · simp
    · simp only [List.map_cons, List.sum_cons, sum_insert f x r]; omega
theorem strike_none (k : Lit) : ∀ l : List (Lit × DM), (∀ p ∈ l, p.1 ≠ k) → (l.filter fun p => !p.1.sameKey k) = l := fun l h => by
  rw [List.filter_eq_self]
  intro p hp
  rw [sameKey_ne (h p hp)]; rfl
def hitS (l : List (Lit × DM)) (k : Lit) : DM := match l.find? (fun p => p.1.sameKey k) with | some p => p.2 | none => litS []
theorem sum_strike (k : Lit) : ∀ l : List (Lit × DM), l.Pairwise (fun p q => p.1 ≠ q.1) →
    ((l.filter fun p => !p.1.sameKey k).map lenD).sum + (strD (hitS l k)).length = (l.map lenD).sum
  | [], _ => by simp [strD, litS, hitS]
  | p :: r, h => by
    obtain ⟨h1, h2⟩ := List.pairwise_cons.1 h
    cases hs : p.1.sameKey k with
    | true =>
      have he := WideAt.sameKey_eq hs
      have hr := strike_none k r (fun q hq e => h1 q hq (by rw [he, e]))
      rw [List.filter_cons_of_neg (by simp [hs]), hr]
      simp only [hitS, List.find?_cons_of_pos (p := fun p : Lit × DM => p.1.sameKey k) (by simpa using hs), lenD, List.map_cons, List.sum_cons]
      omega
    | false =>
      rw [List.filter_cons_of_pos (by simp [hs])]
      have := sum_strike k r h2
      have e : hitS (p :: r) k = hitS r k := by simp only [hitS, List.find?_cons_of_neg (p := fun p : Lit × DM => p.1.sameKey k) (a := p) (l := r) (by simp [hs])]
      rw [e]
      simp only [List.map_cons, List.sum_cons]
      omega
theorem fS_map (es : List (Lit × DM)) (k : List UInt8) : fS (.map es) k = strD (hitS es (.string k)) := by
  simp only [fS, hitS, DataW.atKey]
  cases es.find? (fun p => p.1.sameKey (.string k)) <;> rfl
theorem fSum_put {D : DM} (h : StrMap D) (k t : List UInt8) : fSum (fPut D k t) + (fS D k).length = fSum D + t.length := by
  obtain ⟨es, rfl, hp, _⟩ := h
  have h1 := sum_strike (.string k) es hp
  have h2 : fSum (fPut (.map es) k t) = t.length + ((es.filter fun p => !p.1.sameKey (.string k)).map lenD).sum := by
    simp only [fSum, fPut, DataW.put, fEs, sum_insert]
    rfl
  have h4 : fSum (.map es) = (es.map lenD).sum := rfl
  rw [h2, fS_map, h4]
  rw [Nat.add_assoc, h1, Nat.add_comm]
theorem fSum_del {D : DM} (h : StrMap D) (k : List UInt8) : fSum (fDel D k) + (fS D k).length = fSum D := by
  obtain ⟨es, rfl, hp, _⟩ := h
  rw [fS_map]
  exact sum_strike (.string k) es hp
theorem ne_lit {a b : List UInt8} (h : a ≠ b) : (Lit.string a) ≠ .string b := fun e => h (by injection e)
section
variable {D : DM} {k k' t : List UInt8}
theorem fHas_put_same (h : StrMap D) : fHas (fPut D k t) k = true := has_put_same h.isMap (keyLit k) _
theorem fHas_put_other (hne : k' ≠ k) : fHas (fPut D k t) k' = fHas D k' := has_put_other (ne_lit hne) _
theorem fS_put_same (h : StrMap D) : fS (fPut D k t) k = t := by
  unfold fS fPut; rw [atKey_put_same h.isMap (keyLit k)]; rfl
theorem fS_put_other (hne : k' ≠ k) : fS (fPut D k t) k' = fS D k' := by
  unfold fS fPut; rw [atKey_put_other (ne_lit hne)]
theorem fHas_del_same : fHas (fDel D k) k = false := has_del_same
theorem fHas_del_other (hne : k' ≠ k) : fHas (fDel D k) k' = fHas D k' := has_del_other (ne_lit hne)
theorem fS_del_same : fS (fDel D k) k = [] := by unfold fS fDel; rw [atKey_del_same]; rfl
theorem fS_del_other (hne : k' ≠ k) : fS (fDel D k) k' = fS D k' := by unfold fS fDel; rw [atKey_del_other (ne_lit hne)]
theorem fS_none (h : fHas D k = false) : fS D k = [] := by unfold fS; rw [atKey_of_not_has h]; rfl
theorem fLen_put (h : StrMap D) : fLen (fPut D k t) = if fHas D k then fLen D else fLen D + 1 := size_put h.tidy _
theorem fLen_del (h : StrMap D) : fLen (fDel D k) + (if fHas D k then 1 else 0) = fLen D := size_del h.tidy
theorem fLen_put_le (h : StrMap D) : fLen (fPut D k t) ≤ fLen D + 1 := by rw [fLen_put h]; split <;> omega
theorem fLen_del_le (h : StrMap D) : fLen (fDel D k) ≤ fLen D := by have := fLen_del (k := k) h; omega
end
/-- The entries' texts, by name. -/
theorem fS_of_mem {D : DM} {es : List (Lit × DM)} (hD : D = .map es) (hp : es.Pairwise (fun p q => p.1 ≠ q.1)) {k v : List UInt8} (hm : (Lit.string k, litS v) ∈ es) : fS D k = v := by
  subst hD
  have : es.find? (fun p => p.1.sameKey (.string k)) = some (.string k, litS v) := by
    induction es with
    | nil => cases hm
    | cons x r ih =>
      obtain ⟨h1, h2⟩ := List.pairwise_cons.1 hp
      rcases List.mem_cons.1 hm with e | hm'
      · subst e
        rw [List.find?_cons_of_pos (by simp [Lit.sameKey])]
      · have hne : x.1 ≠ .string k := fun e => h1 _ hm' e
        rw [List.find?_cons_of_neg (by simp [sameKey_ne hne])]
        exact ih h2 hm'
  unfold fS DataW.atKey
  simp only [this]
  rfl
theorem keys_sum {D : DM} (h : StrMap D) : ((strKeys D).map fun k => (fS D k).length).sum = fSum D := by
  obtain ⟨es, hD, hp, hs⟩ := h
  have h1 : strKeys D = es.map fun p => strOf p.1 := by rw [hD]; rfl
  have h2 : fSum D = (es.map lenD).sum := by rw [hD]; rfl
  rw [h1, h2, List.map_map]
  congr 1
  apply List.map_congr_left
  intro p hm
  obtain ⟨k, v, rfl⟩ := hs p hm
  show (fS D k).length = v.length
  rw [fS_of_mem hD hp hm]
theorem names_perm (D : DM) : (fNames D).Perm (strKeys D) := List.mergeSort_perm _ _
theorem names_len (D : DM) : (fNames D).length = fLen D := by
  rw [(names_perm D).length_eq]
  cases D <;> simp [strKeys, fLen, Maps.size]
theorem names_sum {D : DM} (h : StrMap D) : ((fFiles D).map fun p => p.2.length).sum = fSum D := by
  rw [← keys_sum h]
  unfold fFiles
  rw [List.map_map]
  exact ((names_perm D).map _).sum_nat
theorem names_has {D : DM} {k : List UInt8} (h : StrMap D) (hm : k ∈ fNames D) : fHas D k = true := by
  have := (names_perm D).mem_iff.1 hm
  obtain ⟨es, rfl, hp, hs⟩ := h
  obtain ⟨p, hp', he⟩ := List.mem_map.1 this
  obtain ⟨k', v, rfl⟩ := hs p hp'
  have : k' = k := he
  subst this
  unfold fHas
  rw [has_eq, List.any_eq_true]
  exact ⟨_, hp', by simp [Lit.sameKey]⟩
theorem files_fst (D : DM) (i : Nat) (h : i < (fFiles D).length) : (fFiles D)[i].1 ∈ fNames D := by
  simp [fFiles]
theorem files_len (D : DM) : (fFiles D).length = fLen D := by simp [fFiles, names_len]

/-! ### the calls -/
/-- A pending call. -/
inductive DOp where
  | write (s t : List UInt8)
  | remove (s : List UInt8)
  | rename (s t : List UInt8)
def cutT (t : List UInt8) (k : Int) : List UInt8 := if 1 < k then t.take ((k - 2) % ((t.length : Int) + 1)).toNat else t
def DOp.act : DOp → Int → DM → DM
  | .write s t, k, D => fPut D s (cutT t k)
  | .remove s, _, D => fDel D s
  | .rename s t, _, D => if fHas D s then fPut (fDel D s) t (fS D s) else D
def DOp.ok : DOp → Prop
  | .write s t => s.length ≤ 80 ∧ t.length ≤ 16777216
  | .remove s => s.length ≤ 80
  | .rename s t => s.length ≤ 80 ∧ t.length ≤ 80
theorem DOp.act_str {D : DM} (h : StrMap D) (o : DOp) (k : Int) : StrMap (o.act k D) := by
  cases o with
  | write s t => exact h.put _ _
  | remove s => exact h.del _
  | rename s t =>
    simp only [DOp.act]
    split
    · exact (h.del _).put _ _
    · exact h
theorem DOp.act_len {D : DM} (h : StrMap D) (o : DOp) (k : Int) : fLen (o.act k D) ≤ fLen D + 1 := by
  cases o with
  | write s t => exact fLen_put_le h
  | remove s => exact Nat.le_succ_of_le (fLen_del_le h)
  | rename s t =>
    simp only [DOp.act]
    split
    · have h1 := fLen_put_le (k := t) (t := fS D s) (h.del s)
      have h2 := fLen_del_le (k := s) h
      omega
    · omega
theorem rename_len {D : DM} (h : StrMap D) (s t : List UInt8) (hs : fHas D s = true) : fLen (fPut (fDel D s) t (fS D s)) ≤ fLen D := by
  have h1 := fLen_put_le (k := t) (t := fS D s) (h.del s)
  have h2 := fLen_del (k := s) h
  rw [hs] at h2
  simp at h2
  omega

/-- A disk. -/
structure DS where
  now : DM
  sure : DM
  pend : List DOp
  room : Int
  fuse : Int
  off : Bool
def nameB (s : List UInt8) : Bool := decide (1 ≤ s.length) && decide (s.length ≤ 80)
def DS.tick (S : DS) : DS := if S.off then S else { S with off := decide (S.fuse = 0), fuse := max (S.fuse - 1) (-1) }
/-- What the power says. -/
def DS.powE (S : DS) : Int := if S.tick.off then 15 else 0
def DS.powR (S : DS) : Int := if S.off then 15 else 0
def DS.does (S : DS) (o : DOp) : DS := { S with now := o.act 1 S.now, pend := S.pend ++ [o] }
def fullB (S : DS) (s t : List UInt8) : Bool := decide (S.room - (t.length : Int) < (fSum S.now : Int) - ((fS S.now s).length : Int)) || decide (600 < fLen S.now + (if fHas S.now s then 0 else 1))
/-- A writing call. -/
inductive Call where
  | write (s t : List UInt8)
  | remove (s : List UInt8)
  | rename (s t : List UInt8)
  | sync
/-- What is wrong with a call, the power let aside. -/
def Call.err (S : DS) : Call → Int
  | .write s t => if nameB s then (if fullB S s t then 14 else 0) else 11
  | .remove s => if nameB s then (if fHas S.now s then 0 else 5) else 11
  | .rename s t => if nameB s && nameB t then (if fHas S.now s then 0 else 5) else 11
  | .sync => 0
def Call.done (S : DS) : Call → DS
  | .write s t => S.does (.write s t)
  | .remove s => S.does (.remove s)
  | .rename s t => S.does (.rename s t)
  | .sync => { S with sure := S.now, pend := [] }
def Call.errno (c : Call) (S : DS) : Int := if S.tick.off then 15 else c.err S.tick
def Call.turn (c : Call) (S : DS) : DS := if S.tick.off then S.tick else if c.err S.tick = 0 then c.done S.tick else S.tick
def choice (l : List Int) (i : Nat) : Int := l.getD i 0
def crashTo : List DOp → List Int → DM → DM
  | [], _, D => D
  | o :: os, l, D => crashTo os l.tail (if 0 < l.headD 0 then o.act (l.headD 0) D else D)
def DS.crash (S : DS) (l : List Int) : DS := { S with now := crashTo S.pend l S.sure, sure := crashTo S.pend l S.sure, pend := [], fuse := -1, off := false }
def DS.new (room : Int) : DS := ⟨fNil, fNil, [], room, -1, false⟩
/-- What the walks ask of a disk. -/
structure DS.Fit (S : DS) : Prop where
  now : StrMap S.now
  sure : StrMap S.sure
  ops : ∀ o ∈ S.pend, o.ok
  room0 : 0 ≤ S.room
  room1 : S.room ≤ 16777216
  fuse0 : -1 ≤ S.fuse
  fuse1 : S.fuse ≤ 1000000
/-- .. and where writing calls are made. -/
structure DS.Good (S : DS) : Prop extends S.Fit where
  sum : (fSum S.now : Int) ≤ S.room
  few : fLen S.now ≤ 600
  few' : fLen S.sure ≤ 600
def DS.readE (S : DS) (s : List UInt8) : Int := if S.off then 15 else if nameB s then (if fHas S.now s then 0 else 5) else 11
def DS.readT (S : DS) (s : List UInt8) : List UInt8 := if S.off then [] else if nameB s then fS S.now s else []
theorem crashTo_snoc (o : DOp) : ∀ (os : List DOp) (l : List Int) (D : DM), crashTo (os ++ [o]) l D = if 0 < l.getD os.length 0 then o.act (l.getD os.length 0) (crashTo os l D) else crashTo os l D
  | [], l, D => by cases l <;> simp [crashTo]
  | p :: os, l, D => by
    simp only [List.cons_append, crashTo, crashTo_snoc o os, List.length_cons]
    cases l with
    | nil => simp
    | cons x r => simp
theorem crashTo_str : ∀ (os : List DOp) (l : List Int) (D : DM), StrMap D → StrMap (crashTo os l D)
  | [], _, _, h => h
  | p :: os, l, D, h => by
    simp only [crashTo]
    split
    · exact crashTo_str os _ _ (p.act_str h _)
    · exact crashTo_str os _ _ h
theorem crashTo_len : ∀ (os : List DOp) (l : List Int) (D : DM), StrMap D → fLen (crashTo os l D) ≤ fLen D + os.length
  | [], _, _, _ => by simp [crashTo]
  | p :: os, l, D, h => by
    simp only [crashTo]
    split
    · have h1 := crashTo_len os l.tail _ (p.act_str h (l.headD 0))
      have h2 := p.act_len h (l.headD 0)
      rw [List.length_cons]; omega
    · have h1 := crashTo_len os l.tail _ h
      rw [List.length_cons]; omega
end Go.Proofs.YtlenmkemjaaaoaaDoor
