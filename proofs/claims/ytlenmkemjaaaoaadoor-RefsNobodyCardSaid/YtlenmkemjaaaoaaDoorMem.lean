/- A slice that reads as a list, nil let in; blocks kept beside one that is written. -/
import Derived.Test.YtlenmkemjaaaoaaDoorBlk
namespace Go.Proofs.YtlenmkemjaaaoaaDoor
open Go.RowKit

theorem block_add (a : Addr) (n : Nat) : (a.add n).block = a.block := by unfold Addr.add; split <;> rfl
theorem add_add (a : Addr) (i j : Nat) : (a.add i).add j = a.add (i + j) := by
  unfold Addr.add
  by_cases hi : i = 0 <;> by_cases hj : j = 0 <;> simp [hi, hj, Nat.add_assoc]

/-- The slice value '.slice A n c' (n = xs.length) holds the cells xs, in a block of which 'ok' holds. -/
def Rd (w : World) (ok : Nat → Prop) (A : Option Addr) (xs : List Value) : Prop :=
  0 < xs.length → ∃ ad, A = some ad ∧ ok ad.block ∧ ∀ j u, xs[j]? = some u → w.cell? (ad.add j) = some u
section
variable {w w' : World} {ok ok' : Nat → Prop} {A : Option Addr} {xs : List Value}
theorem Rd.nil : Rd w ok A [] := fun h => absurd h (by simp)
theorem Rd.keep (h : Rd w ok A xs) (hk : ∀ p : Addr, ok p.block → w'.cell? p = w.cell? p) : Rd w' ok A xs := fun hn => by
  obtain ⟨ad, e, hb, hc⟩ := h hn
  exact ⟨ad, e, hb, fun j u hu => (hk _ (by rw [block_add]; exact hb)).trans (hc j u hu)⟩
theorem Rd.weak (h : Rd w ok A xs) (hk : ∀ b, b < w.heap.size → ok b → ok' b) : Rd w ok' A xs := fun hn => by
  obtain ⟨ad, e, hb, hc⟩ := h hn
  refine ⟨ad, e, hk _ ?_ hb, hc⟩
  have := hc 0 xs[0] (List.getElem?_eq_getElem hn)
  have h2 := World.block_lt_of_cell? _ _ this
  rwa [block_add] at h2
theorem Rd.below {B : Nat} (h : Rd w (· < B) A xs) (hb : Below B w w') : Rd w' (· < B) A xs := h.keep fun _ hp => hb.cell hp
theorem Rd.drewN (h : Rd w ok A xs) (n : Nat) : Rd (w.drewN n) ok A xs := h
theorem Rd.drew (h : Rd w ok A xs) : Rd w.drew ok A xs := h
theorem Rd.grown {row : Option Nat} (h : Rd w (some · ≠ row) A xs) (hg : w.grownBy w' row) : Rd w' (some · ≠ row) A xs := fun hn => by
  obtain ⟨ad, e, hb, hc⟩ := h hn
  refine ⟨ad, e, hb, fun j u hu => ?_⟩
  have h1 := hc j u hu
  have hlt := World.block_lt_of_cell? _ _ h1
  rw [World.cell?_of_block (hg.block _ hlt (by rw [block_add]; exact hb))]; exact h1
theorem Rd.cut (h : Rd w ok A xs) {k cap : Nat} (hc : xs.length ≤ cap) : Rd w ok (if cap = k then A else A.map (·.add k)) (xs.drop k) := fun hn => by
  have hk : k < xs.length := by simp at hn; omega
  obtain ⟨ad, rfl, hb, hcell⟩ := h (by omega)
  rw [if_neg (by omega)]
  refine ⟨ad.add k, rfl, by rw [block_add]; exact hb, fun j u hu => ?_⟩
  rw [add_add]
  exact hcell _ u (by rw [← hu, List.getElem?_drop])
theorem Rd.take (h : Rd w ok A xs) (k : Nat) : Rd w ok A (xs.take k) := fun hn => by
  have hk : 0 < xs.length := by simp at hn; omega
  obtain ⟨ad, rfl, hb, hcell⟩ := h hk
  exact ⟨ad, rfl, hb, fun j u hu => hcell j u (by
    rw [List.getElem?_take] at hu
    split at hu
    · exact hu
    · cases hu)⟩
theorem Rd.of_blk {g o : Nat} {t : TypeId} {cs r : List Value} (h : Blk w g t cs) (hp : cs.drop o = xs ++ r) (hok : ok g) : Rd w ok (some ⟨g, o, none⟩) xs := fun _ =>
  ⟨_, rfl, hok, blk_src h o xs r hp⟩
theorem Rd.of_own {base : Nat} {e : TypeId} {c n : Nat} (h : w.ownsRow base e 1 (.slice A n c) n xs) : Rd w (base ≤ ·) A xs := fun hn => by
  have hl : xs.length = n := by simpa using h.1
  rcases h.2 with ⟨_, h0⟩ | ⟨g, cap, cur, hv, hg, _⟩
  · omega
  have hA : A = some ⟨g, 0, none⟩ := by injection hv
  subst hA
  exact ⟨_, rfl, hg, h.cells (g := g) rfl⟩
end

/-- A row that may be written: what is below B stays. -/
theorem below_of_grown {B : Nat} {w w' : World} {g : Nat} (h : w.grownBy w' (some g)) (hB : B ≤ w.heap.size) (hg : B ≤ g) : Below B w w' :=
  (Below.refl _ _).grown h hB (fun k hk => by injection hk with hk; omega)
theorem grown_of_below {w w' : World} {row : Option Nat} (h : Below w.heap.size w w') : w.grownBy w' row :=
  ⟨h.os, h.tape, h.output, h.size, fun k hk _ => h.block k hk⟩
end Go.Proofs.YtlenmkemjaaaoaaDoor
