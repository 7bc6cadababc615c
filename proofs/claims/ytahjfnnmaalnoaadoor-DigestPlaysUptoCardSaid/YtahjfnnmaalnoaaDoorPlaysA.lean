/- The walk of Hash.Copy; what the walk of DigestPlays keeps. -/
import Derived.Test.YtahjfnnmaalnoaaDoorWalkPieces
import Derived.Test.YtahjfnnmaalnoaaDoorRSum
namespace Go.Proofs.YtahjfnnmaalnoaaDoor
open Go.RowKit

set_option maxHeartbeats 1000000 in
theorem copy_any (g : Nat) (msg : List UInt8) (w : World) (hH : HashIs w g msg) :
    Calls Tryd.prog 22 #[.pointer (some ⟨g, 0, none⟩)] w fun e w' =>
      ∃ g', e = .returned (.pointer (some ⟨g', 0, none⟩)) ∧ w.heap.size ≤ g' ∧ HashIs w' g' msg ∧ Below w.heap.size w w' := by
  obtain ⟨rest, hr, ht, hB⟩ := hH
  have hc0 : w.cell? ⟨g, 0, none⟩ = some (.bool true) := by rw [hB.cell]; rfl
  have hzH := (zero_of_info zerosH).1
  obtain ⟨cs, hcs⟩ : ∃ cs, cs = hashCells true (blocksS msg (msg.length / 64)) rest msg.length := ⟨_, rfl⟩
  have hcl : cs.length = 74 := by rw [hcs]; exact hashCells_len _ _ _ _ hr
  have hc1 : ∀ v ∈ cs, v.oneCell' = true := by rw [hcs]; exact all_hash _ _ _ _
  rw [← hcs] at hB
  have hsz : (Tryd.prog.info? 48).map (·.size) = some cs.length := by rw [hcl]; kernel_rfl
  replace hcs := Lib.hid hcs
  replace hr := Lib.hid hr
  replace ht := Lib.hid ht
  replace hsz := Lib.hid hsz
  replace hcl := Lib.hid hcl
  replace hc1 := Lib.hid hc1
  go_enter Tryd.func22, Tryd.ntmps22
  go_wp2_with (first
    | (refine wpList_load_blk rfl 48 (.tmp 14) rfl g rfl 48 cs hB _ Tryd.underlying48 rfl hsz.out ?_)
    | (refine wpList_store_blk rfl 48 (.tmp 3) (.tmp 15) rfl w.heap.size cs rfl rfl 48 hash0 (Blk.new_at rfl) (by rw [hcl.out]; rfl) hsz.out hc1.out ?_))
  go_ret
  refine ⟨w.heap.size, rfl, Nat.le_refl _, ⟨rest, hr.out, ht.out, ?_⟩, below_setRow ((Below.refl _ _).alloc (Nat.le_refl _) _) (Nat.le_refl _) _⟩
  rw [← hcs.out]
  exact (Blk.new_at (cs := hash0) rfl).setRow_same _

/-- x at place k, else as f says. -/
def upd {α : Type} (f : Nat → α) (k : Nat) (x : α) : Nat → α := fun j => if j = k then x else f j
theorem upd_same {α : Type} (f : Nat → α) (k : Nat) (x : α) : upd f k x k = x := by simp [upd]
theorem upd_other {α : Type} (f : Nat → α) {k j : Nat} (x : α) (h : j ≠ k) : upd f k x j = f j := by simp [upd, h]
/-- Two hashes (each took M k), and two rows of bytes (each holds N k). -/
structure PL (w : World) (gh ga : Nat) (G : Nat → Nat) (V : Nat → Value) (M N : Nat → List UInt8) (wr : World) : Prop where
  h : Blk wr gh 32 [.pointer (some ⟨G 0, 0, none⟩), .pointer (some ⟨G 1, 0, none⟩)]
  a : Blk wr ga 22 [V 0, V 1]
  i : ∀ k, k < 2 → HashIs wr (G k) (M k)
  o : ∀ k, k < 2 → wr.ownsRow w.heap.size 5 1 (V k) (N k).length ((N k).map B)
  ne : ∀ k j, k < 2 → j < 2 → k ≠ j → G k ≠ G j
  no : ∀ k j, k < 2 → j < 2 → k ≠ j → ∀ b, (V k).ownBlock = some b → (V j).ownBlock ≠ some b
  lh : w.heap.size ≤ gh
  la : w.heap.size ≤ ga
  lg : ∀ k, k < 2 → w.heap.size ≤ G k
  below : Below w.heap.size w wr
theorem own_type {w : World} {base : Nat} {e : TypeId} {v : Value} {n : Nat} {xs : List Value} (h : w.ownsRow base e 1 v n xs) {g : Nat} {t : TypeId} {cs : List Value} (hB : Blk w g t cs) (hne : e ≠ t) : v.ownBlock ≠ some g := by
  rcases h.2 with ⟨rfl, _⟩ | ⟨g', cap, cur, rfl, _, hg, _⟩
  · simp [Value.ownBlock]
  · intro e1
    simp only [Value.ownBlock, Option.some.injEq] at e1
    subst e1
    unfold Blk at hB
    rw [hg] at hB
    injection hB with hB
    injection hB with _ ht
    exact hne ht
theorem own_lt {w : World} {base : Nat} {e : TypeId} {v : Value} {n : Nat} {xs : List Value} (h : w.ownsRow base e 1 v n xs) : ∀ b, v.ownBlock = some b → base ≤ b ∧ b < w.heap.size := fun b hb => h.lt b hb
theorem own_grown {w w' : World} {base : Nat} {e : TypeId} {v : Value} {n : Nat} {xs : List Value} (h : w.ownsRow base e 1 v n xs) {row : Option Nat} (hg : w.grownBy w' row) (hr : ∀ b, v.ownBlock = some b → some b ≠ row) : w'.ownsRow base e 1 v n xs := by
  refine h.kept hg ?_
  cases hob : v.ownBlock with
  | none => exact .inl rfl
  | some q => exact .inr (hr q hob)
theorem hash_blk {w : World} {g : Nat} {m : List UInt8} (h : HashIs w g m) : ∃ cs, Blk w g 48 cs := by
  obtain ⟨r, _, _, hB⟩ := h; exact ⟨_, hB⟩
theorem grown_setC (w : World) (q i : Nat) (u : Value) : w.grownBy (w.setCell ⟨q, i, none⟩ u) (some q) :=
  ⟨rfl, rfl, rfl, by simp, fun k _ hne => Below.heap_setCell w ⟨q, i, none⟩ u k (fun e => hne (by simpa using e))⟩
section
variable {w wr w' : World} {gh ga : Nat} {G : Nat → Nat} {V : Nat → Value} {M N : Nat → List UInt8}
theorem PL.cellH (h : PL w gh ga G V M N wr) {k : Nat} (hk : k < 2) : wr.cell? ⟨gh, k, none⟩ = some (.pointer (some ⟨G k, 0, none⟩)) := by
  rw [h.h.cell]
  match k, hk with
  | 0, _ => rfl
  | 1, _ => rfl
theorem PL.cellA (h : PL w gh ga G V M N wr) {k : Nat} (hk : k < 2) : wr.cell? ⟨ga, k, none⟩ = some (V k) := by
  rw [h.a.cell]
  match k, hk with
  | 0, _ => rfl
  | 1, _ => rfl
/-- A write into a block that the play does not hold. -/
theorem PL.grown (h : PL w gh ga G V M N wr) {row : Option Nat} (hg : wr.grownBy w' row) (h1 : some gh ≠ row) (h2 : some ga ≠ row) (h3 : ∀ k, k < 2 → some (G k) ≠ row) (h4 : ∀ k, k < 2 → ∀ b, (V k).ownBlock = some b → some b ≠ row) (h5 : ∀ b, row = some b → w.heap.size ≤ b) : PL w gh ga G V M N w' where
  h := h.h.grown hg h1
  a := h.a.grown hg h2
  i := fun k hk => hashIs_keep (h.i k hk) (hg.block _ (hashIs_lt (h.i k hk)) (h3 k hk))
  o := fun k hk => own_grown (h.o k hk) hg (h4 k hk)
  ne := h.ne
  no := h.no
  lh := h.lh
  la := h.la
  lg := h.lg
  below := h.below.trans ((Below.refl _ _).grown hg h.below.size h5)
/-- Where nothing that was there has turned. -/
theorem PL.keep (h : PL w gh ga G V M N wr) (hb : Below wr.heap.size wr w') : PL w gh ga G V M N w' :=
  h.grown (row := none) (grown_of_below hb) (by simp) (by simp) (by simp) (by simp) (by simp)
/-- Hash k takes more. -/
theorem PL.write (h : PL w gh ga G V M N wr) {k : Nat} (hk : k < 2) {m : List UInt8} (hH : HashIs w' (G k) m) (hg : wr.grownBy w' (some (G k))) : PL w gh ga G V (upd M k m) N w' where
  h := h.h.grown hg (by
    obtain ⟨cs, hB⟩ := hash_blk (h.i k hk)
    have := h.h.ne_ hB (by decide)
    simpa using this)
  a := h.a.grown hg (by
    obtain ⟨cs, hB⟩ := hash_blk (h.i k hk)
    have := h.a.ne_ hB (by decide)
    simpa using this)
  i := fun j hj => by
    by_cases e : j = k
    · subst e; rw [upd_same]; exact hH
    · rw [upd_other _ _ e]
      exact hashIs_keep (h.i j hj) (hg.block _ (hashIs_lt (h.i j hj)) (by simpa using h.ne j k hj hk e))
  o := fun j hj => own_grown (h.o j hj) hg (fun b hb e => by
    obtain ⟨cs, hB⟩ := hash_blk (h.i k hk)
    injection e with e
    subst e
    exact own_type (h.o j hj) hB (by decide) hb)
  ne := h.ne
  no := h.no
  lh := h.lh
  la := h.la
  lg := h.lg
  below := h.below.trans ((Below.refl _ _).grown hg h.below.size (fun b hb => by injection hb with hb; subst hb; exact h.lg k hk))
theorem blk2_set {wr : World} {g k : Nat} {t : TypeId} {f : Nat → Value} (h : Blk wr g t [f 0, f 1]) (hk : k < 2) (u : Value) : Blk (wr.setCell ⟨g, k, none⟩ u) g t [upd f k u 0, upd f k u 1] := by
  have := h.set_ k u
  match k, hk with
  | 0, _ => exact this
  | 1, _ => exact this
/-- Row k is another one: v' in a block that the play does not hold, or in row k's own. -/
theorem PL.row (h : PL w gh ga G V M N wr) {k : Nat} (hk : k < 2) {v' : Value} {n' : List UInt8} {w1 : World} (hown : w1.ownsRow w.heap.size 5 1 v' n'.length (n'.map B)) (hg : wr.grownBy w1 (V k).ownBlock)
    (hv : v'.ownBlock = (V k).ownBlock ∨ ∀ b, v'.ownBlock = some b → wr.heap.size ≤ b) : PL w gh ga G (upd V k v') M (upd N k n') (w1.setCell ⟨ga, k, none⟩ v') := by
  have nh : some gh ≠ (V k).ownBlock := fun e => own_type (h.o k hk) h.h (by decide) e.symm
  have na : some ga ≠ (V k).ownBlock := fun e => own_type (h.o k hk) h.a (by decide) e.symm
  have ng : ∀ j, j < 2 → some (G j) ≠ (V k).ownBlock := fun j hj e => by
    obtain ⟨cs, hB⟩ := hash_blk (h.i j hj)
    exact own_type (h.o k hk) hB (by decide) e.symm
  have hA1 : Blk w1 ga 22 [V 0, V 1] := h.a.grown hg na
  have hH1 : Blk w1 gh 32 [.pointer (some ⟨G 0, 0, none⟩), .pointer (some ⟨G 1, 0, none⟩)] := h.h.grown hg nh
  have nga : gh ≠ ga := hH1.ne_ hA1 (by decide)
  have hgs := grown_setC w1 ga k v'
  refine ⟨?_, blk2_set hA1 hk v', ?_, ?_, h.ne, ?_, h.lh, h.la, h.lg, ?_⟩
  · exact hH1.far (by simpa using nga) _
  · intro j hj
    have h1 := hashIs_keep (h.i j hj) (hg.block _ (hashIs_lt (h.i j hj)) (ng j hj))
    obtain ⟨cs, hB⟩ := hash_blk h1
    exact hashIs_keep h1 (Below.heap_setCell w1 ⟨ga, k, none⟩ v' (G j) (hB.ne_ hA1 (by decide)))
  · intro j hj
    by_cases e : j = k
    · subst e
      rw [upd_same, upd_same]
      exact own_grown hown hgs (fun b hb e => own_type hown hA1 (by decide) (by rw [hb]; exact e))
    · rw [upd_other _ _ e, upd_other _ _ e]
      have h1 := own_grown (h.o j hj) hg (fun b hb e2 => h.no j k hj hk e b hb e2.symm)
      exact own_grown h1 hgs (fun b hb e => own_type h1 hA1 (by decide) (by rw [hb]; exact e))
  · intro j i hj hi hji b hb
    by_cases e : j = k
    · subst e
      rw [upd_same] at hb
      rw [upd_other _ _ (Ne.symm hji)]
      rcases hv with hv | hv
      · rw [hv] at hb; exact h.no j i hj hi hji b hb
      · intro e2
        have := (own_lt (h.o i hi) b e2).2
        have := hv b hb
        omega
    · rw [upd_other _ _ e] at hb
      by_cases e2 : i = k
      · subst e2
        rw [upd_same]
        rcases hv with hv | hv
        · rw [hv]; exact h.no j i hj hi hji b hb
        · intro e3
          have := (own_lt (h.o j hj) b hb).2
          have := hv b e3
          omega
      · rw [upd_other _ _ e2]; exact h.no j i hj hi hji b hb
  · have hb1 : Below w.heap.size w w1 := h.below.trans ((Below.refl _ _).grown hg h.below.size (fun b hb => (own_lt (h.o k hk) b hb).1))
    exact hb1.setCell h.la _
/-- Hash k is another one, in a new block. -/
theorem PL.hash (h : PL w gh ga G V M N wr) {k g : Nat} (hk : k < 2) {m : List UInt8} {w1 : World} (hb : Below wr.heap.size wr w1) (hH : HashIs w1 g m) (hgl : wr.heap.size ≤ g) :
    PL w gh ga (upd G k g) V (upd M k m) N (w1.setCell ⟨gh, k, none⟩ (.pointer (some ⟨g, 0, none⟩))) := by
  have h1 := h.keep hb
  have hgs := grown_setC w1 gh k (.pointer (some ⟨g, 0, none⟩))
  have nga : ga ≠ gh := h1.a.ne_ h1.h (by decide)
  have hset := blk2_set (f := fun j => .pointer (some ⟨G j, 0, none⟩)) h1.h hk (.pointer (some ⟨g, 0, none⟩))
  refine ⟨?_, h1.a.far (by simpa using nga) _, ?_, ?_, ?_, h1.no, h1.lh, h1.la, ?_, h1.below.setCell h1.lh _⟩
  · have e : ∀ j, upd (fun j => Value.pointer (some ⟨G j, 0, none⟩)) k (.pointer (some ⟨g, 0, none⟩)) j = .pointer (some ⟨upd G k g j, 0, none⟩) := fun j => by unfold upd; split <;> rfl
    rw [e 0, e 1] at hset
    exact hset
  · intro j hj
    by_cases e : j = k
    · subst e
      rw [upd_same, upd_same]
      obtain ⟨cs, hB⟩ := hash_blk hH
      exact hashIs_keep hH (Below.heap_setCell w1 ⟨gh, j, none⟩ _ g (hB.ne_ h1.h (by decide)))
    · rw [upd_other _ _ e, upd_other _ _ e]
      obtain ⟨cs, hB⟩ := hash_blk (h1.i j hj)
      exact hashIs_keep (h1.i j hj) (Below.heap_setCell w1 ⟨gh, k, none⟩ _ (G j) (hB.ne_ h1.h (by decide)))
  · intro j hj
    exact own_grown (h1.o j hj) hgs (fun b hb e => own_type (h1.o j hj) h1.h (by decide) (by rw [hb]; exact e))
  · intro j i hj hi hji
    by_cases e : j = k
    · subst e
      rw [upd_same, upd_other _ _ (Ne.symm hji)]
      have := hashIs_lt (h.i i hi)
      omega
    · rw [upd_other _ _ e]
      by_cases e2 : i = k
      · subst e2; rw [upd_same]
        have := hashIs_lt (h.i j hj)
        omega
      · rw [upd_other _ _ e2]; exact h.ne j i hj hi hji
  · intro j hj
    by_cases e : j = k
    · subst e; rw [upd_same]; have := h.below.size; omega
    · rw [upd_other _ _ e]; exact h.lg j hj
end
end Go.Proofs.YtahjfnnmaalnoaaDoor
