/- Two arrays of bytes held against each other. -/
import Derived.Test.YtlenmkemjaaaoaaDoorMem2
import Derived.Test.YtlenmkemjaaaoaaDoorRows
import Derived.Test.YtlenmkemjaaaoaaDoorWord
import Derived.Laws.StructEq
namespace Go.Proofs.YtlenmkemjaaaoaaDoor
open Go.RowKit
section
variable {P : Program}
theorem run_part_one (w : World) (e : TypeId) (k : IntKind) (he : P.underlying e = some (.int k)) (cs : List Value) (i : Nat) (v : Value) (h : cs[i]? = some v) : (part e cs.toArray i).run P w = .ok v w := by
  simp [part, isAgg, run_underlying he, h]
theorem bv_beq (x y : UInt8) : (bv x == bv y) = (x == y) := by
  rw [Bool.eq_iff_iff, beq_iff_eq, beq_iff_eq]
  exact ⟨bv_inj, fun h => by rw [h]⟩
theorem run_equalIn_arr (w : World) (D : Nat) (t e : TypeId) (n : Nat) (ht : P.underlying t = some (.array n e)) (he : P.underlying e = some (.int .u8)) (hs : (P.info? e).map (·.size) = some 1) (xs ys : List UInt8) (hx : xs.length = n) (hy : ys.length = n)
    (hin : ∀ a b : UInt8, (Op.equalIn D e (B a) (B b)).run P w = .ok (a == b) w) :
    (Op.equalIn (D + 1) t (.agg (xs.map B).toArray) (.agg (ys.map B).toArray)).run P w = .ok (xs == ys) w := by
  cases hq : P.info? e with
  | none => simp [hq] at hs
  | some inf =>
    have hi : inf.size = 1 := by simpa [hq] using hs
    have hsz : (sizeOf e).run P w = .ok 1 w := by simp [sizeOf, typeInfo, hq, hi]
    simp only [Op.equalIn, Sem.run_bind, run_underlying ht, Result.andThen_ok, hsz, Std.Legacy.Range.forIn_eq_forIn_range', Std.Legacy.Range.size]
    have e0 : (xs == ys) = (xs.drop 0 == ys.drop 0) := by simp
    rw [e0]
    have e1 : (n - 0 + 1 - 1) / 1 = n := by omega
    rw [e1]
    have him : 0 + n = xs.length := by omega
    have hiy : 0 + n = ys.length := by omega
    clear hx hy ht e0 e1
    generalize (0 : Nat) = i at him hiy ⊢
    induction n generalizing i with
    | zero =>
      have h1 : xs.drop i = [] := List.drop_of_length_le (by omega)
      have h2 : ys.drop i = [] := List.drop_of_length_le (by omega)
      rw [h1, h2]
      simp
    | succ m ih =>
      have hxi : i < xs.length := by omega
      have hyi : i < ys.length := by omega
      have px := run_part_one (P := P) w e .u8 he (xs.map B) i (B xs[i]) (by simp [hxi])
      have py := run_part_one (P := P) w e .u8 he (ys.map B) i (B ys[i]) (by simp [hyi])
      have he2 := hin xs[i] ys[i]
      simp only [List.range'_succ, List.forIn_cons, Nat.mul_one, Sem.run_bind, px, py, Result.andThen_ok, he2, Sem.run_ite]
      rw [List.drop_eq_getElem_cons hxi, List.drop_eq_getElem_cons hyi]
      cases hb : (xs[i] == ys[i]) with
      | true =>
        simp only [Bool.not_true, Bool.false_eq_true, if_false, Sem.run_pure, Result.andThen_ok, List.cons_beq_cons, hb, Bool.true_and]
        have := ih (i + 1) (by omega) (by omega)
        simp only [Nat.mul_one] at this
        exact this
      | false =>
        simp only [Bool.not_false, if_true, Sem.run_pure, Result.andThen_ok, List.cons_beq_cons, hb, Bool.false_and]
/-- '==' of two arrays of bytes. -/
theorem run_eql_bytes (w : World) (t e : TypeId) (n : Nat) (ht : P.underlying t = some (.array n e)) (he : P.underlying e = some (.int .u8)) (hs : (P.info? e).map (·.size) = some 1) (xs ys : List UInt8) (hx : xs.length = n) (hy : ys.length = n) :
    (binOp .eql t (.agg (xs.map B).toArray) (.agg (ys.map B).toArray)).run P w = .ok (.bool (xs == ys)) w := by
  rw [run_eql_struct, run_equalIn_arr (P := P) w 9999 t e n ht he hs xs ys hx hy (fun a b => by rw [run_equalIn_int (P := P) w 9998 e .u8 .u8 (bv a) (bv b) he, bv_beq])]
  rfl
theorem run_neq_bytes (w : World) (t e : TypeId) (n : Nat) (ht : P.underlying t = some (.array n e)) (he : P.underlying e = some (.int .u8)) (hs : (P.info? e).map (·.size) = some 1) (xs ys : List UInt8) (hx : xs.length = n) (hy : ys.length = n) :
    (binOp .neq t (.agg (xs.map B).toArray) (.agg (ys.map B).toArray)).run P w = .ok (.bool (!(xs == ys))) w := by
  rw [run_neq_struct, run_equalIn_arr (P := P) w 9999 t e n ht he hs xs ys hx hy (fun a b => by rw [run_equalIn_int (P := P) w 9998 e .u8 .u8 (bv a) (bv b) he, bv_beq])]
  rfl
end
/-- Two digests held against each other, as an operation: '==', '!='. -/
theorem exec_eql_dig (w : World) {o : Oper} {a : Act} {x y : Operand} {yt : TypeId} (ho : o.op = .binOp .eql 57 x y yt) (xs ys : List UInt8) (hxe : a.eval x = .agg (xs.map B).toArray) (hye : a.eval y = .agg (ys.map B).toArray) (hx : xs.length = 32) (hy : ys.length = 32) :
    (execOp a.eval o).run Tryd.prog w = .ok (.value (.bool (xs == ys))) w := by
  have h1 : (eqGuard .eql 57 x y (.agg (xs.map B).toArray) (.agg (ys.map B).toArray)).run Tryd.prog w = .ok () w := run_eqGuard_agg (P := Tryd.prog) w .eql 57 x y _ _ (by kernel_rfl)
  simp only [execOp, ho, hxe, hye, Sem.run_bind, h1, Result.andThen_ok, run_eql_bytes (P := Tryd.prog) w 57 5 32 Tryd.underlying57 Tryd.underlying5 (by kernel_rfl) xs ys hx hy, Sem.run_pure]
theorem exec_neq_dig (w : World) {o : Oper} {a : Act} {x y : Operand} {yt : TypeId} (ho : o.op = .binOp .neq 57 x y yt) (xs ys : List UInt8) (hxe : a.eval x = .agg (xs.map B).toArray) (hye : a.eval y = .agg (ys.map B).toArray) (hx : xs.length = 32) (hy : ys.length = 32) :
    (execOp a.eval o).run Tryd.prog w = .ok (.value (.bool (!(xs == ys)))) w := by
  have h1 : (eqGuard .neq 57 x y (.agg (xs.map B).toArray) (.agg (ys.map B).toArray)).run Tryd.prog w = .ok () w := run_eqGuard_agg (P := Tryd.prog) w .neq 57 x y _ _ (by kernel_rfl)
  simp only [execOp, ho, hxe, hye, Sem.run_bind, h1, Result.andThen_ok, run_neq_bytes (P := Tryd.prog) w 57 5 32 Tryd.underlying57 Tryd.underlying5 (by kernel_rfl) xs ys hx hy, Sem.run_pure]
theorem wpList_eql_dig {ops : Array Oper} {rest : List Oper} {o : Oper} {a : Act} {w : World} {Q : Exit → Act → World → Prop} (hgd : o.guard = none) (x y : Operand) (yt : TypeId) (ho : o.op = .binOp .eql 57 x y yt)
    (xs ys : List UInt8) (hxe : a.eval x = .agg (xs.map B).toArray) (hye : a.eval y = .agg (ys.map B).toArray) (hx : xs.length = 32) (hy : ys.length = 32)
    (h : wpList Tryd.prog ops Q rest (a.put o.dst (.bool (xs == ys))) w) : wpList Tryd.prog ops Q (o :: rest) a w :=
  wpList_run _ ho hgd _ (exec_eql_dig w ho xs ys hxe hye hx hy) h
theorem wpList_neq_dig {ops : Array Oper} {rest : List Oper} {o : Oper} {a : Act} {w : World} {Q : Exit → Act → World → Prop} (hgd : o.guard = none) (x y : Operand) (yt : TypeId) (ho : o.op = .binOp .neq 57 x y yt)
    (xs ys : List UInt8) (hxe : a.eval x = .agg (xs.map B).toArray) (hye : a.eval y = .agg (ys.map B).toArray) (hx : xs.length = 32) (hy : ys.length = 32)
    (h : wpList Tryd.prog ops Q rest (a.put o.dst (.bool (!(xs == ys)))) w) : wpList Tryd.prog ops Q (o :: rest) a w :=
  wpList_run _ ho hgd _ (exec_neq_dig w ho xs ys hxe hye hx hy) h
end Go.Proofs.YtlenmkemjaaaoaaDoor
