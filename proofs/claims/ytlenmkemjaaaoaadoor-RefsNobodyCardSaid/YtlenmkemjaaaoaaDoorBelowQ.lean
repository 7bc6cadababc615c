/- Regions that draw their order and hold calls that make memory but hand plain values back: quiet in the class of all worlds that lie over one world. -/
import Derived.Test.YtlenmkemjaaaoaaDoorMem2
import Derived.Test.YtlenmkemjaaaoaaDoorQuiet
import Derived.Test.YtlenmkemjaaaoaaDoorPerm
import Derived.BigQuiet
namespace Go.Proofs.YtlenmkemjaaaoaaDoor
open Go.RowKit

/-- The worlds in which nothing of W has turned. -/
def Over (W : World) : Type := { x : World // Below W.heap.size W x }
theorem over_nonempty (W : World) : Nonempty (Over W) := ⟨⟨W, Below.refl _ _⟩⟩
section
variable {P : Program}
theorem quiet_over {id : Nat} {Q : Exit → Act → World → Prop} {a : Act} {w : World} {l : List Oper} (hm : P.follows .mixedOrders = true) (hB : Region.lexB .any l.toArray = true)
    (h : wpQuiet P l.toArray (fun w' => ∃ s : Over w, w' = s.1) (fun a' => ∀ w', (∃ s : Over w, w' = s.1) → Q .normal a' w') l a) : (Code.region id l.toArray true).wp P Q a w :=
  wp_region_quiet (C := fun w' => ∃ s : Over w, w' = s.1) hm hB ⟨⟨w.drew, (Below.refl _ _).drew⟩, rfl⟩ (by simpa using h)
theorem quiet_over_tail {id : Nat} {Q : Exit → Act → World → Prop} {a : Act} {w : World} {l : List Oper} (n : Nat) (hm : P.follows .mixedOrders = true) (hB : Region.lexTailB .any l.toArray n = true)
    (h : wpQuiet P l.toArray (fun w' => ∃ s : Over w, w' = s.1) (fun a' => ∀ w', (∃ s : Over w, w' = s.1) → wpList P l.toArray Q (l.drop n) a' w') (l.take n) a) : (Code.region id l.toArray true).wp P Q a w :=
  quiet_tail_in (C := fun w' => ∃ s : Over w, w' = s.1) n hm hB ⟨⟨w.drew, (Below.refl _ _).drew⟩, rfl⟩ h
/-- A callee that hands v back and turns nothing that was there. -/
theorem calls_over {f : FuncId} {args : Array Value} {W : World} {v : Value} (s : Over W) (h : Calls P f args s.1 fun e w' => e = .returned v ∧ Below s.1.heap.size s.1 w') :
    Calls P f args s.1 fun e w'' => e = .returned v ∧ ∃ s' : Over W, w'' = s'.1 :=
  h.mono fun _ w' ⟨he, hb⟩ => ⟨he, ⟨w', s.2.trans (hb.mono s.2.size)⟩, rfl⟩
theorem blk_over {W : World} {g : Nat} {t : TypeId} {cs : List Value} (h : Blk W g t cs) (s : Over W) : Blk s.1 g t cs := h.below s.2 h.lt
end
end Go.Proofs.YtlenmkemjaaaoaaDoor
