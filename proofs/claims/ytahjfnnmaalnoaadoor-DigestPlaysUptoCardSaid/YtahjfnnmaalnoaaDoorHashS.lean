/- What a hash holds, as a function of the bytes that it took. Plain. -/
import Derived.Test.YtahjfnnmaalnoaaDoorSha
import Derived.Test.YtahjfnnmaalnoaaDoorMem
import Derived.Test.YtahjfnnmaalnoaaDoorNew
namespace Go.Proofs.YtahjfnnmaalnoaaDoor
open Go.RowKit

/-- The state behind the first k blocks of 64 bytes. -/
def blocksS (msg : List UInt8) : Nat → St
  | 0 => st0
  | k + 1 => mixS (blocksS msg k) ((msg.drop (64 * k)).take 64)
theorem blocksS_app (msg more : List UInt8) (k : Nat) (h : 64 * k ≤ msg.length) : blocksS (msg ++ more) k = blocksS msg k := by
  induction k with
  | zero => rfl
  | succ k ih =>
    have h1 : 64 * k ≤ msg.length := by omega
    rw [blocksS, blocksS, ih h1]
    congr 1
    rw [List.drop_append_of_le_length h1, List.take_append_of_le_length (by simp; omega)]

/-- What the cells of a hash are that took msg: the rest's first bytes are msg's last ones. -/
def HashIs (w : World) (g : Nat) (msg : List UInt8) : Prop :=
  ∃ rest : List UInt8, rest.length = 64 ∧ rest.take (msg.length % 64) = msg.drop (64 * (msg.length / 64)) ∧
    Blk w g 48 (hashCells true (blocksS msg (msg.length / 64)) rest msg.length)

theorem hashIs_new {w : World} {g : Nat} (h : Blk w g 48 (hashCells true st0 (List.replicate 64 0) 0)) : HashIs w g [] :=
  ⟨List.replicate 64 0, by simp, by simp, h⟩
theorem hashIs_keep {w w' : World} {g : Nat} {msg : List UInt8} (h : HashIs w g msg) (hb : w'.heap[g]? = w.heap[g]?) : HashIs w' g msg := by
  obtain ⟨r, h1, h2, h3⟩ := h
  exact ⟨r, h1, h2, hb.trans h3⟩

/-- A piece that fills the rest's room from place o on. -/
theorem rest_step (msg piece rest : List UInt8) (hr : rest.length = 64) (ht : rest.take (msg.length % 64) = msg.drop (64 * (msg.length / 64))) :
    (splice rest (msg.length % 64) piece).take (msg.length % 64 + piece.length) = (msg ++ piece).drop (64 * (msg.length / 64)) := by
  have h1 : 64 * (msg.length / 64) ≤ msg.length := by omega
  rw [List.drop_append_of_le_length h1, ← ht]
  unfold splice
  rw [← List.append_assoc, List.take_append_of_le_length (by simp; omega)]
  exact List.take_of_length_le (by simp; omega)
theorem splice_len (rest piece : List UInt8) (o : Nat) (hr : rest.length = 64) (hp : o + piece.length ≤ 64) : (splice rest o piece).length = 64 := by
  rw [length_splice _ _ _ (by omega)]; exact hr

theorem hashCells_rest (made : Bool) (s : St) (rest piece : List UInt8) (n o : Nat) (hr : rest.length = 64) (hp : o + piece.length ≤ 64) :
    splice (hashCells made s rest n) (9 + o) (piece.map B) = hashCells made s (splice rest o piece) n := by
  unfold hashCells
  have hs : s.cells.length = 8 := rfl
  have e : ∀ X : List Value, splice (.bool made :: (s.cells ++ X)) (9 + o) (piece.map B) = .bool made :: (s.cells ++ splice X o (piece.map B)) := by
    intro X
    unfold splice
    rw [show 9 + o = (8 + o) + 1 by omega, List.take_succ_cons, ← hs, List.take_length_add_append, List.cons_append, List.append_assoc]
    congr 3
    rw [show s.cells.length + o + 1 + (piece.map B).length = (s.cells.length + (o + (piece.map B).length)) + 1 by omega, List.drop_succ_cons, List.drop_length_add_append]
  rw [e]
  congr 2
  unfold splice
  rw [List.take_append_of_le_length (by simp; omega), List.map_append, List.map_append, List.map_take, List.append_assoc, List.append_assoc, List.drop_append_of_le_length (by simp; omega), List.length_map, List.map_drop]
theorem hashCells_n (made : Bool) (s : St) (rest : List UInt8) (n m : Nat) (hr : rest.length = 64) : (hashCells made s rest n).set 73 (.int .i64 (m : Int)) = hashCells made s rest m := by
  unfold hashCells
  have hs : s.cells.length = 8 := rfl
  rw [List.set_cons_succ, List.set_append_right _ _ (by omega), List.set_append_right _ _ (by simp; omega)]
  simp [hr, hs]
theorem hashCells_s (made : Bool) (s s' : St) (rest : List UInt8) (n : Nat) : splice (hashCells made s rest n) 1 s'.cells = hashCells made s' rest n := rfl
theorem hashCells_len (made : Bool) (s : St) (rest : List UInt8) (n : Nat) (hr : rest.length = 64) : (hashCells made s rest n).length = 74 := by
  have hs : s.cells.length = 8 := rfl
  simp [hashCells, hr, hs]
theorem hashCells_drop9 (made : Bool) (s : St) (rest : List UInt8) (n : Nat) : (hashCells made s rest n).drop 9 = rest.map B ++ [.int .i64 (n : Int)] := rfl
theorem hashCells_73 (made : Bool) (s : St) (rest : List UInt8) (n : Nat) (hr : rest.length = 64) : (hashCells made s rest n)[73]? = some (.int .i64 (n : Int)) := by
  have : (hashCells made s rest n)[73]? = ((hashCells made s rest n).drop 9)[64]? := by rw [List.getElem?_drop]
  rw [this, hashCells_drop9, List.getElem?_append_right (by simp; omega)]
  simp [hr]
/-- Behind a piece that leaves room. -/
theorem hash_lo {w : World} {g : Nat} {m piece rest : List UInt8} (hr : rest.length = 64) (ht : rest.take (m.length % 64) = m.drop (64 * (m.length / 64))) (hp : m.length % 64 + piece.length < 64)
    (hB : Blk w g 48 (hashCells true (blocksS m (m.length / 64)) (splice rest (m.length % 64) piece) (m.length + piece.length))) : HashIs w g (m ++ piece) := by
  have e1 : (m ++ piece).length = m.length + piece.length := List.length_append
  have e2 : (m.length + piece.length) % 64 = m.length % 64 + piece.length := by omega
  have e3 : (m.length + piece.length) / 64 = m.length / 64 := by omega
  refine ⟨splice rest (m.length % 64) piece, splice_len _ _ _ hr (by omega), ?_, ?_⟩
  · rw [e1, e2, e3]; exact rest_step m piece rest hr ht
  · rw [e1, e3, blocksS_app _ _ _ (by omega)]; exact hB
/-- Behind a piece that fills the block. -/
theorem hash_hi {w : World} {g : Nat} {m piece rest : List UInt8} (hr : rest.length = 64) (ht : rest.take (m.length % 64) = m.drop (64 * (m.length / 64))) (hp : m.length % 64 + piece.length = 64)
    (hB : Blk w g 48 (hashCells true (mixS (blocksS m (m.length / 64)) (splice rest (m.length % 64) piece)) (splice rest (m.length % 64) piece) (m.length + piece.length))) : HashIs w g (m ++ piece) := by
  have e1 : (m ++ piece).length = m.length + piece.length := List.length_append
  have e2 : (m.length + piece.length) % 64 = 0 := by omega
  have e3 : (m.length + piece.length) / 64 = m.length / 64 + 1 := by omega
  have hs := rest_step m piece rest hr ht
  have hl := splice_len rest piece (m.length % 64) hr (by omega)
  rw [hp, List.take_of_length_le (by omega)] at hs
  refine ⟨splice rest (m.length % 64) piece, hl, ?_, ?_⟩
  · rw [e1, e2, e3]
    rw [List.take_zero, List.drop_of_length_le (by rw [e1]; omega)]
  · rw [e1, e3, blocksS, blocksS_app _ _ _ (by omega), ← hs, List.take_of_length_le (by omega)]; exact hB
end Go.Proofs.YtahjfnnmaalnoaaDoor
