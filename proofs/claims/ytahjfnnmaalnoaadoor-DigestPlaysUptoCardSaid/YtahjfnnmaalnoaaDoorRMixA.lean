/- What the walk of the reference's mix leans on: rows of the call's own. -/
import Derived.Test.YtahjfnnmaalnoaaDoorRWord
import Derived.Test.YtahjfnnmaalnoaaDoorMixA
import Derived.Test.YtahjfnnmaalnoaaDoorHsum
import Derived.Test.YtahjfnnmaalnoaaDoorAppend
namespace Go.Proofs.YtahjfnnmaalnoaaDoor
open Go.RowKit

theorem add_or {a b i : Nat} (h : b < 2 ^ i) : a * 2 ^ i + b = a * 2 ^ i ||| b := by
  rw [Nat.mul_comm]; exact Nat.two_pow_add_eq_or_of_lt h a
theorem be32_add (a b c d : UInt8) : shl (b2w a) 24 + shl (b2w b) 16 + shl (b2w c) 8 + b2w d = be32 a b c d := by
  have ha := a.toNat_lt
  have hb := b.toNat_lt
  have hc := c.toNat_lt
  have hd := d.toNat_lt
  apply UInt32.toNat_inj.1
  unfold be32
  simp only [UInt32.toNat_add, UInt32.toNat_or, shl_toNat, b2w_toNat]
  have e1 : a.toNat * 2 ^ 24 % 4294967296 = a.toNat * 2 ^ 24 := Nat.mod_eq_of_lt (by omega)
  have e2 : b.toNat * 2 ^ 16 % 4294967296 = b.toNat * 2 ^ 16 := Nat.mod_eq_of_lt (by omega)
  have e3 : c.toNat * 2 ^ 8 % 4294967296 = c.toNat * 2 ^ 8 := Nat.mod_eq_of_lt (by omega)
  rw [e1, e2, e3]
  have f3 : c.toNat * 2 ^ 8 + d.toNat = c.toNat * 2 ^ 8 ||| d.toNat := add_or (by omega)
  have f2 : b.toNat * 2 ^ 16 + (c.toNat * 2 ^ 8 + d.toNat) = b.toNat * 2 ^ 16 ||| (c.toNat * 2 ^ 8 ||| d.toNat) := by rw [← f3]; exact add_or (by omega)
  have f1 : a.toNat * 2 ^ 24 + (b.toNat * 2 ^ 16 + (c.toNat * 2 ^ 8 + d.toNat)) = a.toNat * 2 ^ 24 ||| (b.toNat * 2 ^ 16 ||| (c.toNat * 2 ^ 8 ||| d.toNat)) := by rw [← f2]; exact add_or (by omega)
  rw [Nat.or_assoc, Nat.or_assoc, ← f1]
  omega
theorem own_at {w : World} {base : Nat} {e : TypeId} {v : Value} {n : Nat} {xs : List Value} (h : w.ownsRow base e 1 v n xs) (hn : 0 < n) :
    ∃ g cap, v = .slice (some ⟨g, 0, none⟩) n cap ∧ base ≤ g ∧ g < w.heap.size ∧ n ≤ cap ∧ ∀ j u, xs[j]? = some u → w.cell? ⟨g, j, none⟩ = some u := by
  have hl : xs.length = n := by simpa using h.1
  rcases h.2 with ⟨rfl, h0⟩ | ⟨g, cap, cur, rfl, hg, _, hnc, _⟩
  · omega
  have hc := h.cells (g := g) rfl
  refine ⟨g, cap, rfl, hg, ?_, hnc, fun j u hu => ?_⟩
  · exact (h.lt g rfl).2
  · have := hc j u hu; rwa [addr_add, Nat.zero_add] at this
theorem info32 : InfoOf Tryd.prog 43 (W 0) 1 4 := ⟨by kernel_rfl, rfl, by decide⟩
/-- The row of words grows in a row of the call's own. -/
def RM (w : World) (ws : List UInt32) (v : Value) (wr : World) : Prop :=
  wr.ownsRow w.heap.size 43 1 v ws.length (ws.map W) ∧ Below w.heap.size w wr
theorem rm_drewN {w wr : World} {ws : List UInt32} {v : Value} (h : RM w ws v wr) (n : Nat) : RM w ws v (wr.drewN n) := by
  refine ⟨?_, below_drewN h.2 n⟩
  refine h.1.kept (row := none) (grown_of_below (below_drewN (Below.refl _ _) n)) ?_
  cases v.ownBlock with
  | none => exact .inl rfl
  | some k => exact .inr (by simp)
theorem own_alloc {w : World} {base : Nat} {e : TypeId} {v : Value} {n : Nat} {xs : List Value} (h : w.ownsRow base e 1 v n xs) (o : Obj) : (w.alloc o).ownsRow base e 1 v n xs := by
  refine h.kept (row := none) (grown_of_below ((Below.refl _ _).alloc (Nat.le_refl _) _)) ?_
  cases v.ownBlock with
  | none => exact .inl rfl
  | some k => exact .inr (by simp)
theorem rd_one (w : World) (t : TypeId) (u : Value) : Rd (w.alloc (.cells #[u] t)) (fun _ => True) (some ⟨w.heap.size, 0, none⟩) [u] := fun _ =>
  ⟨_, rfl, trivial, fun j x hx => by
    cases j with
    | zero => simp at hx; subst hx; rw [addr_add]; simp
    | succ j => simp at hx⟩
/-- One word more. -/
theorem rm_grow {w wr w' : World} {ws : List UInt32} {v v' : Value} {n : Nat} {o : Obj} (h : RM w ws v wr) (hn : ws.length = n) {x : UInt32} (hown : w'.ownsRow w.heap.size 43 1 v' (n + 1) (ws.map W ++ [W x])) (hg : (wr.alloc o).grownBy w' v.ownBlock) : RM w (ws ++ [x]) v' w' := by
  refine ⟨by simpa [hn] using hown, ?_⟩
  have h1 : Below w.heap.size w (wr.alloc o) := h.2.alloc h.2.size o
  exact h1.trans (own_below (own_alloc h.1 o) hg h1.size)
theorem rword_key (S : ByteArray) (hS : S = ⟨wordsL.toArray⟩) (k : Nat) (hk : k < 64) (x : UInt32) (hx : keysL.getD k 0 = x) (w : World) :
    Calls Tryd.prog 26 #[.string S, .int .i64 (k : Int)] w fun e w' => e = .returned (W x) ∧ w = w' := by
  subst hS
  have h := rword_any wordsL k (by rw [words_len]; omega) (by rw [words_len]; omega) w
  rw [words_all ⟨k, hk⟩, hx] at h
  exact h
theorem not_u32 : (if IntKind.u32.signed = true then (-1 : Int) else IntKind.u32.max) = IntKind.u32.max := rfl
theorem w_sumT (h c y x d : UInt32) : (wv d + (wv h + wv c + wv y + wv x) % 4294967296) % 4294967296 = wv (d + (h + c + y + x)) := by simp only [← w_add_mod]; omega
theorem w_sumA (h c y x d : UInt32) : ((wv h + wv c + wv y + wv x) % 4294967296 + wv d) % 4294967296 = wv ((h + c + y + x) + d) := by simp only [← w_add_mod]; omega
theorem mem8 (w : World) (t : TypeId) (l : List UInt32) (i : Nat) (hi : i < l.length) : (w.alloc (.cells (l.map W).toArray t)).cell? ⟨w.heap.size, i, none⟩ = some (W (l.getD i 0)) := by
  simp [hi]

end Go.Proofs.YtahjfnnmaalnoaaDoor
