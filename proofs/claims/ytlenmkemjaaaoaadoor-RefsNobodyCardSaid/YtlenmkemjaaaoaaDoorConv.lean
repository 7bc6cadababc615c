/- string(b) of a slice of bytes; a constant []byte("..."). -/
import Derived.Test.YtlenmkemjaaaoaaDoorMem2
import Derived.Test.YtlenmkemjaaaoaaDoorWord
import Derived.Laws.BytesArg
import Derived.Lib.SlBytesConst
namespace Go.Proofs.YtlenmkemjaaaoaaDoor
open Go.RowKit
section
variable {P : Program}
theorem nums_back (xs : List UInt8) : (xs.map bv).map (fun n => UInt8.ofNat n.toNat) = xs := by
  rw [List.map_map]
  conv => rhs; rw [← List.map_id xs]
  refine List.map_congr_left fun x _ => ?_
  simp [bv]
theorem run_to_string (w : World) {ok : Nat → Prop} (src e dst : TypeId) (hs : P.underlying src = some (.slice e)) (he : P.underlying e = some (.int .u8)) (hd : P.underlying dst = some .string) (A : Option Addr) (xs : List UInt8) (cap : Nat) (hr : Rd w ok A (xs.map B)) :
    (convert src dst (.slice A xs.length cap)).run P w = .ok (.string ⟨xs.toArray⟩) w := by
  cases A with
  | none =>
    have : xs = [] := by
      cases xs with
      | nil => rfl
      | cons x xs => obtain ⟨_, h, _⟩ := hr (by simp); cases h
    subst this
    exact run_convert_bytes_nil (P := P) w src e hs he _ cap dst hd
  | some ad =>
    have hl : (loadCells ad xs.length).run P w = .ok ((xs.map bv).map (Value.int .u8)).toArray w := by
      have := run_loadCells_list (P := P) w ad ((xs.map bv).map (Value.int .u8)) (fun j v hv => by
        have hv' : (xs.map B)[j]? = some v := by rw [List.map_map] at hv; exact hv
        obtain ⟨ad', h, _, hc⟩ := hr (by have := (List.getElem?_eq_some_iff.1 hv').1; omega)
        injection h with h
        subst h
        exact hc j v hv')
      simpa using this
    rw [run_convert_bytes_string w src dst e _ _ cap hs he hd, run_bytesToString w _ _ cap _ hl, foldl_push_bytes, nums_back]
    simp [ByteArray.empty, ByteArray.emptyWithCapacity]; rfl
theorem wpList_to_string {ops : Array Oper} {rest : List Oper} {o : Oper} {a : Act} {w : World} {Q : Exit → Act → World → Prop} {ok : Nat → Prop} (hgd : o.guard = none) (src dst : TypeId) (x : Operand) (ho : o.op = .convert src dst x)
    (e : TypeId) (hs : P.underlying src = some (.slice e)) (he : P.underlying e = some (.int .u8)) (hd : P.underlying dst = some .string) (A : Option Addr) (xs : List UInt8) (cap : Nat) (hx : a.eval x = .slice A xs.length cap) (hr : Rd w ok A (xs.map B))
    (h : wpList P ops Q rest (a.put o.dst (.string ⟨xs.toArray⟩)) w) : wpList P ops Q (o :: rest) a w := by
  refine wpList_run _ ho hgd _ ?_ h
  simp only [execOp, ho, hx, Sem.run_bind, run_to_string w src e dst hs he hd A xs cap hr, Result.andThen_ok, Sem.run_pure]
theorem wpQuiet_to_string {ops : Array Oper} {rest : List Oper} {o : Oper} {a : Act} {C : World → Prop} {Q : Act → Prop} {ok : Nat → Prop} (src dst : TypeId) (x : Operand) (ho : o.op = .convert src dst x) (hgd : o.guard = none)
    (e : TypeId) (hs : P.underlying src = some (.slice e)) (he : P.underlying e = some (.int .u8)) (hd : P.underlying dst = some .string) (A : Option Addr) (xs : List UInt8) (cap : Nat) (hx : a.eval x = .slice A xs.length cap) (hr : ∀ w, C w → Rd w ok A (xs.map B))
    (h : wpQuiet P ops C Q rest (a.put o.dst (.string ⟨xs.toArray⟩))) : wpQuiet P ops C Q (o :: rest) a := by
  refine wpQuiet_run _ ho hgd _ (fun w hw => ?_) h
  simp only [execOp, ho, hx, Sem.run_bind, run_to_string w src e dst hs he hd A xs cap (hr w hw), Result.andThen_ok, Sem.run_pure]
end
end Go.Proofs.YtlenmkemjaaaoaaDoor
