/- A number of two digits to the base 16. -/
import Derived.Test.YtamdhaoglapnnaaGreatDoorM08
import Derived.Lib.ConvBytes
import Derived.Test.YtamdhaoglapnnaaGreatDoorM07
namespace Go.Proofs.YtamdhaoglapnnaaGreatDoor
open Go.RowKit

theorem bytesW_below (w : World) (e : TypeId) (s : ByteArray) : Below w.heap.size w (Lib.bytesWorld w e s) :=
  ⟨by simp [Lib.bytesWorld, World.freeze, World.alloc, World.drew, -World.alloc_eq, -World.drew_eq], by simp [Lib.bytesWorld, World.freeze, World.alloc, World.drew, -World.alloc_eq, -World.drew_eq], by simp [Lib.bytesWorld, World.freeze, World.alloc, World.drew, -World.alloc_eq, -World.drew_eq], by rw [Lib.bytesWorld_size]; omega, fun i hi => Lib.bytesWorld_at_old w e s i hi⟩
theorem bytesW_cell (w : World) (e : TypeId) (s : Str) (j : Nat) (hj : j < s.length) : (Lib.bytesWorld w e ⟨s.toArray⟩).cell? ⟨w.heap.size, j, none⟩ = some (.int .u8 (bv s[j])) := by
  rw [Lib.bytesWorld_cell w e _ j (by simpa [ByteArray.size] using hj)]
  simp [bv, hj, List.getD]
/-- '[]byte(s)'. -/
theorem wpList_of_string {ops : Array Oper} {rest : List Oper} {o : Oper} {a : Act} {w : World} {Q : Exit → Act → World → Prop} (hgd : o.guard = none) (x : Operand) (ho : o.op = .convert 9 49 x) (s : Str) (hx : a.eval x = .string ⟨s.toArray⟩)
    (h : ∀ w' c, Below w.heap.size w w' → w.heap.size < w'.heap.size → (∀ j (hj : j < s.length), w'.cell? ⟨w.heap.size, j, none⟩ = some (.int .u8 (bv s[j]))) → wpList Tryz.prog ops Q rest (a.put o.dst (.slice (some ⟨w.heap.size, 0, none⟩) s.length c)) w') : wpList Tryz.prog ops Q (o :: rest) a w := by
  refine wpList_value hgd _ ?_ (h (Lib.bytesWorld w 5 ⟨s.toArray⟩) (grownCap w s.length 0 5) (bytesW_below _ _ _) (by rw [Lib.bytesWorld_size]; omega) (fun j hj => bytesW_cell w _ s j hj))
  have hl : (⟨s.toArray⟩ : ByteArray).size = s.length := strLn s
  have := Lib.run_convert_string_bytes (P := Tryz.prog) w 9 49 5 ⟨s.toArray⟩ Tryz.underlying9 Tryz.underlying49 Tryz.underlying5
  rw [hl] at this
  simp only [execOp, ho, hx, Sem.run_bind, this, Result.andThen_ok, Sem.run_pure]
theorem lower_any (c : UInt8) (w : World) : Calls Tryz.prog 142 #[.int .u8 (bv c)] w fun e w' => e = .returned (.int .u8 (bv (c ||| 32))) ∧ w = w' := by
  have h : bits .or .u8 (bv c) 32 = bv (c ||| 32) := b_or c 32
  obtain ⟨x, hx⟩ : ∃ x, x = bv c := ⟨_, rfl⟩
  obtain ⟨y, hy⟩ : ∃ y, y = bv (c ||| 32) := ⟨_, rfl⟩
  rw [← hx, ← hy] at h
  rw [← hx, ← hy]
  clear hx hy
  go_enter Tryz.func142, Tryz.ntmps142
  go_wp2_with fail
  go_returns
  exact ⟨rfl, rfl⟩
theorem ch_all : ∀ k : Fin 256, ((48 ≤ k.1 ∧ k.1 ≤ 57 ∧ hexV (byteN k.1) = some (k.1 - 48)) ∨ ((k.1 < 48 ∨ (48 ≤ k.1 ∧ 57 < k.1)) ∧ ((97 ≤ (byteN k.1 ||| 32).toNat ∧ (byteN k.1 ||| 32).toNat ≤ 122 ∧ (byteN k.1 ||| 32).toNat < 103 ∧ k.1 ≠ 95 ∧ hexV (byteN k.1) = some ((byteN k.1 ||| 32).toNat - 87)) ∨ (97 ≤ (byteN k.1 ||| 32).toNat ∧ (byteN k.1 ||| 32).toNat ≤ 122 ∧ 103 ≤ (byteN k.1 ||| 32).toNat ∧ k.1 ≠ 95 ∧ hexV (byteN k.1) = none) ∨
    (((byteN k.1 ||| 32).toNat < 97 ∨ (97 ≤ (byteN k.1 ||| 32).toNat ∧ 122 < (byteN k.1 ||| 32).toNat)) ∧ hexV (byteN k.1) = none)))) := by decide +kernel
/-- A byte read as a digit, in the walk's words: d its digit (16 and more: none). -/
def ChIs (x l : Int) (v : Option Nat) : Prop := (48 ≤ x ∧ x ≤ 57 ∧ v = some (x - 48).toNat) ∨ ((x < 48 ∨ (48 ≤ x ∧ 57 < x)) ∧ ((97 ≤ l ∧ l ≤ 122 ∧ l < 103 ∧ (x == 95) = false ∧ v = some (l - 87).toNat) ∨ (97 ≤ l ∧ l ≤ 122 ∧ 103 ≤ l ∧ (x == 95) = false ∧ v = none) ∨ ((l < 97 ∨ (97 ≤ l ∧ 122 < l)) ∧ ((x == 95) = true ∨ (x == 95) = false) ∧ v = none)))
theorem ch_is (c : UInt8) : ChIs (bv c) (bv (c ||| 32)) (hexV c) := by
  have h := ch_all ⟨c.toNat, c.toNat_lt⟩
  dsimp only at h
  rw [byteN_toNat] at h
  unfold ChIs bv
  generalize (c ||| 32).toNat = l at h ⊢
  generalize c.toNat = x at h ⊢
  rcases h with ⟨h1, h2, h3⟩ | ⟨h1, ⟨h2, h3, h4, h6, h5⟩ | ⟨h2, h3, h4, h6, h5⟩ | ⟨h2, h3⟩⟩
  · exact .inl ⟨by omega, by omega, by rw [h3]; congr 1; omega⟩
  · exact .inr ⟨by omega, .inl ⟨by omega, by omega, by omega, by simp; omega, by rw [h5]; congr 1; omega⟩⟩
  · exact .inr ⟨by omega, .inr (.inl ⟨by omega, by omega, by omega, by simp; omega, h5⟩)⟩
  · exact .inr ⟨by omega, .inr (.inr ⟨by omega, by cases ((x : Int) == 95) <;> simp, h3⟩)⟩
/-- What the library makes of two digits. -/
def NumTo (v : Option Nat) (w : World) (e : Ending) (w' : World) : Prop := (∃ m err, e = .returned (.tuple #[.int .u64 m, err]) ∧ (match v with | some n => m = n ∧ err = .nilIface | none => err = .iface 202 (.int .i64 2))) ∧ Below w.heap.size w w'
set_option maxRecDepth 100000 in
set_option maxHeartbeats 16000000 in
theorem puint_two (a b : UInt8) (w : World) : Calls Tryz.prog 80 #[.string ⟨#[a, b]⟩, .int .i64 16, .int .i64 8] w (NumTo (hexVV a b) w) := by
  have hla := Lib.hid (lower_any a)
  have hlb := Lib.hid (lower_any b)
  have hca := ch_is a
  have hcb := ch_is b
  have ga := bv_lt a
  have gb := bv_lt b
  have ga0 := bv_nonneg a
  have gb0 := bv_nonneg b
  have gla := bv_lt (a ||| 32)
  have glb := bv_lt (b ||| 32)
  have gla0 := bv_nonneg (a ||| 32)
  have glb0 := bv_nonneg (b ||| 32)
  have hv : hexVV a b = (hexV a).bind fun x => (hexV b).map fun y => 16 * x + y := rfl
  rw [hv]
  have hne : ((⟨#[a, b]⟩ : ByteArray).toList = []) = False := by simp [Lib.toList_data]
  have hne2 : (!(⟨#[a, b]⟩ : ByteArray).toList.isEmpty) = true := by simp [Lib.toList_data]
  generalize hexV a = va at hca ⊢
  generalize hexV b = vb at hcb ⊢
  go_enter Tryz.func80, Tryz.ntmps80
  go_wp2_with (first
    | (refine wpList_of_string rfl (.tmp 98) rfl [a, b] rfl ?_
       intro w1 cap hb1 hs1 hc1
       have c0 : w1.cell? ⟨w.heap.size, 0, none⟩ = some (.int .u8 (bv a)) := hc1 0 (by simp)
       have c1 : w1.cell? ⟨w.heap.size, 1, none⟩ = some (.int .u8 (bv b)) := hc1 1 (by simp)
       clear hc1
       replace hb1 := Lib.hid hb1
       go_frame)
    | fail)
  generalize bv a = x at hla hca ga ga0 c0
  generalize bv (a ||| 32) = l at hla hca gla gla0
  generalize bv b = y at hlb hcb gb gb0 c1
  generalize bv (b ||| 32) = m at hlb hcb glb glb0
  refine wp_loop_rounds 3 ?_
  rw [rounds_succ]
  rcases hca with ⟨h1, h2, h3⟩ | ⟨h1 | ⟨h1, h1'⟩, ⟨h2, h3, h4, h6, h5⟩ | ⟨h2, h3, h4, h6, h5⟩ | ⟨h2 | ⟨h2, h2'⟩, h6 | h6, h3⟩⟩
  all_goals subst va
  all_goals go_wp2_with (first | (go_at_call 142; (with_reducible refine (hla.out _).mono ?_); rintro e w' ⟨rfl, rfl⟩) | fail)
  all_goals first
    | (refine bodyPost_ret (results_tmp2 rfl _ _ _) rfl ⟨⟨_, _, rfl, ?_⟩, hb1.out⟩; rfl)
    | skip
  all_goals rw [rounds_succ]
  all_goals rcases hcb with ⟨i1, i2, i3⟩ | ⟨i1 | ⟨i1, i1'⟩, ⟨i2, i3, i4, i6, i5⟩ | ⟨i2, i3, i4, i6, i5⟩ | ⟨i2 | ⟨i2, i2'⟩, i6 | i6, i3⟩⟩
  all_goals subst vb
  all_goals go_wp2_with (first | (go_at_call 142; (with_reducible refine (hlb.out _).mono ?_); rintro e w' ⟨rfl, rfl⟩) | fail)
  all_goals first
    | (refine bodyPost_ret (results_tmp2 rfl _ _ _) rfl ⟨⟨_, _, rfl, ?_⟩, hb1.out⟩; rfl)
    | skip
  all_goals rw [rounds_succ]
  all_goals go_wp2_with fail
  all_goals refine bodyPost_ret (results_tmp2 rfl _ _ _) rfl ⟨⟨_, _, rfl, ?_⟩, hb1.out⟩
  all_goals
    simp only [Option.bind_some, Option.map_some]
    refine ⟨?_, rfl⟩
    omega
end Go.Proofs.YtamdhaoglapnnaaGreatDoor
