/- A quiet operation whose run is known; cuts of an array. -/
import Derived.Test.YtlenmkemjaaaoaaDoorMem
import Derived.Test.YtlenmkemjaaaoaaDoorQuiet
import Derived.Maps.RangeWalk
namespace Go.Proofs.YtlenmkemjaaaoaaDoor
open Go.RowKit
section
variable {P : Program}
/-- An operation of a quiet walk whose run is known. -/
theorem wpQuiet_run {ops : Array Oper} {rest : List Oper} {o : Oper} {a : Act} {C : World → Prop} {Q : Act → Prop} (op : Op) (_ho : o.op = op) (hgd : o.guard = none) (v : Value)
    (hrun : ∀ w, C w → (execOp a.eval o).run P w = .ok (.value v) w) (h : wpQuiet P ops C Q rest (a.put o.dst v)) : wpQuiet P ops C Q (o :: rest) a := by
  refine wpQuiet_step fun K hK => ?_
  have hw : Region.wanted o (yielded ops a.tmps) = true := by simp [Region.wanted, hgd]
  rw [if_pos hw]
  exact ⟨v, fun w hC => by unfold Oper.quietAt; rw [hrun w hC]; exact ⟨rfl, rfl⟩, hK _ h⟩

/-- 'x[l:]' of an array in a block. -/
theorem run_sliceAt_arr_lo (w : World) (t elem : TypeId) (n : Nat) (hu : P.underlying t = some (.array n elem)) (hs : (P.info? elem).map (·.size) = some 1) (b off l : Nat) (hl : l < n) :
    (Instr.sliceAt t (.pointer (some ⟨b, off, none⟩)) (some (.int .i64 (l : Int))) none none).run P w = .ok (.slice (some ⟨b, off + l, none⟩) (n - l) (n - l)) w := by
  cases hq : P.info? elem with
  | none => simp [hq] at hs
  | some i =>
    have hi : i.size = 1 := by simpa [hq] using hs
    have h1 : ¬ n = l := by omega
    have h2 : (l : Int) ≤ n := by omega
    simp [Instr.sliceAt, run_underlying hu, Instr.sliceBounds, run_sliceBound, sizeOf, typeInfo, hq, hi, h1, addr_add, Instr.sureAddr, Nat.le_of_lt hl]
theorem wpQuiet_slice_lo {ops : Array Oper} {rest : List Oper} {o : Oper} {a : Act} {C : World → Prop} {Q : Act → Prop} (t : TypeId) (x lo : Operand) (ho : o.op = .slice t x (some lo) none none) (hgd : o.guard = none)
    (elem : TypeId) (n : Nat) (hu : P.underlying t = some (.array n elem)) (hs : (P.info? elem).map (·.size) = some 1) (b off l : Nat) (i : Int) (hx : a.eval x = .pointer (some ⟨b, off, none⟩)) (hlo : a.eval lo = .int .i64 i) (hi : i = (l : Int)) (hl : l < n)
    (h : wpQuiet P ops C Q rest (a.put o.dst (.slice (some ⟨b, off + l, none⟩) (n - l) (n - l)))) : wpQuiet P ops C Q (o :: rest) a := by
  refine wpQuiet_run _ ho hgd _ (fun w _ => ?_) h
  subst hi
  simp only [execOp, ho, hx, hlo, Option.map_some, Option.map_none, Sem.run_bind, run_sliceAt_arr_lo w t elem n hu hs b off l hl, Result.andThen_ok, Sem.run_pure]
/-- Where 'x[k:]' of a slice begins: at its capacity's end the address stays. (A plain def: the walk does not part on it.) -/
def cutA (A : Option Addr) (cap k s : Nat) : Option Addr := if cap = k then A else A.map (·.add (k * s))
theorem Rd.cutA {w : World} {ok : Nat → Prop} {A : Option Addr} {xs : List Value} (h : Rd w ok A xs) {k cap : Nat} (hc : xs.length ≤ cap) : Rd w ok (cutA A cap k 1) (xs.drop k) := by
  have := h.cut (k := k) hc
  unfold Proofs.YtlenmkemjaaaoaaDoor.cutA
  simpa using this
theorem run_sliceAt_from (w : World) (t elem : TypeId) (s : Nat) (hu : P.underlying t = some (.slice elem)) (hs : (P.info? elem).map (·.size) = some s) (A : Option Addr) (n cap k : Nat) (hk : k ≤ n) :
    (Instr.sliceAt t (.slice A n cap) (some (.int .i64 (k : Int))) none none).run P w = .ok (.slice (cutA A cap k s) (n - k) (cap - k)) w := by
  cases hq : P.info? elem with
  | none => simp [hq] at hs
  | some i =>
    have hi : i.size = s := by simpa [hq] using hs
    simp [Instr.sliceAt, Instr.slice, run_underlying hu, Instr.sliceBounds, run_sliceBound, sizeOf, typeInfo, hq, hi, hk, cutA]
theorem run_sliceAt_mid (w : World) (t elem : TypeId) (s : Nat) (hu : P.underlying t = some (.slice elem)) (hs : (P.info? elem).map (·.size) = some s) (A : Option Addr) (n cap k j : Nat) (hk : k ≤ j) (hj : j ≤ cap) :
    (Instr.sliceAt t (.slice A n cap) (some (.int .i64 (k : Int))) (some (.int .i64 (j : Int))) none).run P w = .ok (.slice (cutA A cap k s) (j - k) (cap - k)) w := by
  cases hq : P.info? elem with
  | none => simp [hq] at hs
  | some i =>
    have hi : i.size = s := by simpa [hq] using hs
    simp [Instr.sliceAt, Instr.slice, run_underlying hu, Instr.sliceBounds, run_sliceBound, sizeOf, typeInfo, hq, hi, hk, hj, cutA]
/-- 'x[k:]' of a slice. -/
theorem wpList_slice_from {ops : Array Oper} {rest : List Oper} {o : Oper} {a : Act} {w : World} {Q : Exit → Act → World → Prop} (hgd : o.guard = none) (t : TypeId) (x lo : Operand) (ho : o.op = .slice t x (some lo) none none)
    (elem : TypeId) (s : Nat) (hu : P.underlying t = some (.slice elem)) (hs : (P.info? elem).map (·.size) = some s) (A : Option Addr) (n cap k : Nat) (hx : a.eval x = .slice A n cap) (hlo : a.eval lo = .int .i64 (k : Int)) (hk : k ≤ n)
    (h : wpList P ops Q rest (a.put o.dst (.slice (cutA A cap k s) (n - k) (cap - k))) w) : wpList P ops Q (o :: rest) a w := by
  refine wpList_run _ ho hgd _ ?_ h
  simp only [execOp, ho, hx, hlo, Option.map_some, Option.map_none, Sem.run_bind, run_sliceAt_from w t elem s hu hs A n cap k hk, Result.andThen_ok, Sem.run_pure]
/-- 'x[k:j]' of a slice. -/
theorem wpList_slice_mid {ops : Array Oper} {rest : List Oper} {o : Oper} {a : Act} {w : World} {Q : Exit → Act → World → Prop} (hgd : o.guard = none) (t : TypeId) (x lo hi : Operand) (ho : o.op = .slice t x (some lo) (some hi) none)
    (elem : TypeId) (s : Nat) (hu : P.underlying t = some (.slice elem)) (hs : (P.info? elem).map (·.size) = some s) (A : Option Addr) (n cap k j : Nat) (hx : a.eval x = .slice A n cap) (hlo : a.eval lo = .int .i64 (k : Int)) (hhi : a.eval hi = .int .i64 (j : Int)) (hk : k ≤ j) (hj : j ≤ cap)
    (h : wpList P ops Q rest (a.put o.dst (.slice (cutA A cap k s) (j - k) (cap - k))) w) : wpList P ops Q (o :: rest) a w := by
  refine wpList_run _ ho hgd _ ?_ h
  simp only [execOp, ho, hx, hlo, hhi, Option.map_some, Option.map_none, Sem.run_bind, run_sliceAt_mid w t elem s hu hs A n cap k j hk hj, Result.andThen_ok, Sem.run_pure]
/-- A part of a block is read, in a quiet walk. -/
theorem wpQuiet_load_part {ops : Array Oper} {rest : List Oper} {op : Oper} {a : Act} {C : World → Prop} {Q : Act → Prop} (ty : TypeId) (x : Operand) (ho : op.op = .load ty x) (hgd : op.guard = none)
    (g o : Nat) (hx : a.eval x = .pointer (some ⟨g, o, none⟩)) (t : TypeId) (cs part r : List Value) (hg : ∀ w, C w → Blk w g t cs) (hp : cs.drop o = part ++ r) (d : TypeDesc)
    (hu : P.underlying ty = some d) (hd : d.isRow = true) (hi : (P.info? ty).map (·.size) = some part.length)
    (h : wpQuiet P ops C Q rest (a.put op.dst (.agg part.toArray))) : wpQuiet P ops C Q (op :: rest) a := by
  refine wpQuiet_run _ ho hgd _ (fun w hw => ?_) h
  unfold execOp
  simp only [ho, hx, Instr.loadAt, Instr.sureAddr, Sem.run_bind, Sem.run_pure, Result.andThen_ok,
    run_loadVar_mid w g o ty part d (fun j v hv => by have := blk_src (hg w hw) o part r hp j v hv; rwa [addr_add] at this) hu hd hi]
end
end Go.Proofs.YtlenmkemjaaaoaaDoor
