/- The walk of DigestNobody: a hash that nobody made. -/
import Derived.Test.YtahjfnnmaalnoaaDoorArrEq
import Derived.Test.YtahjfnnmaalnoaaDoorAlive
import Derived.Test.YtahjfnnmaalnoaaDoorWalkSorts
namespace Go.Proofs.YtahjfnnmaalnoaaDoor
open Go.RowKit

/-- A pointer to no hash, or to one that nobody made. -/
def Nobody (w : World) (p : Value) : Prop := p = .pointer none ∨ ∃ g, p = .pointer (some ⟨g, 0, none⟩) ∧ w.cell? ⟨g, 0, none⟩ = some (.bool false)

set_option maxHeartbeats 400000 in
theorem write_nobody (p : Value) (A : Option Addr) (n c : Nat) (w : World) (h : Nobody w p) :
    Calls Tryd.prog 19 #[p, .slice A n c] w fun e w' => e = .returned (.tuple #[]) ∧ w = w' := by
  rcases h with rfl | ⟨g, rfl, hc⟩
  · go_enter Tryd.func19, Tryd.ntmps19
    go_wp2
    exact bodyPost_ret (v := .tuple #[]) (results_none Tryd.results19 _ _ _) rfl ⟨rfl, rfl⟩
  · go_enter Tryd.func19, Tryd.ntmps19
    go_wp2
    exact bodyPost_ret (v := .tuple #[]) (results_none Tryd.results19 _ _ _) rfl ⟨rfl, rfl⟩
set_option maxHeartbeats 400000 in
theorem len_nobody (p : Value) (w : World) (h : Nobody w p) :
    Calls Tryd.prog 21 #[p] w fun e w' => e = .returned (.int .i64 0) ∧ w = w' := by
  rcases h with rfl | ⟨g, rfl, hc⟩
  · go_enter Tryd.func21, Tryd.ntmps21
    go_wp2
    go_ret
    exact ⟨rfl, rfl⟩
  · go_enter Tryd.func21, Tryd.ntmps21
    go_wp2
    go_ret
    exact ⟨rfl, rfl⟩
set_option maxHeartbeats 400000 in
theorem copy_nobody (p : Value) (w : World) (h : Nobody w p) :
    Calls Tryd.prog 22 #[p] w fun e w' => e = .returned (.pointer none) ∧ w = w' := by
  rcases h with rfl | ⟨g, rfl, hc⟩
  · go_enter Tryd.func22, Tryd.ntmps22
    go_wp2
    go_ret
    exact ⟨rfl, rfl⟩
  · go_enter Tryd.func22, Tryd.ntmps22
    go_wp2
    go_ret
    exact ⟨rfl, rfl⟩
theorem zero32_eq : zero32 = (List.replicate 32 (0 : UInt8)).map B := rfl
set_option maxRecDepth 100000 in
set_option maxHeartbeats 1000000 in
theorem hsum_nobody (p : Value) (w : World) (h : Nobody w p) :
    Calls Tryd.prog 20 #[p] w fun e w' => e = .returned (.agg ((List.replicate 32 (0 : UInt8)).map B).toArray) ∧ Below w.heap.size w w' := by
  have hz := (zero_of_info zeros32).1
  rcases h with rfl | ⟨g, rfl, hc⟩
  · go_enter Tryd.func20, Tryd.ntmps20
    go_wp2_with (first
      | (refine wpList_load_blk rfl 24 (.tmp 3) rfl (w.heap.size + 1) rfl 24 zero32 (Blk.new_at (by simp)) _ Tryd.underlying24 rfl (by kernel_rfl) ?_)
      | (refine wpList_store_blk rfl 24 (.tmp 2) (.tmp 18) rfl w.heap.size zero32 rfl rfl 24 zero32 ((Blk.new_at rfl).alloc _) rfl (by kernel_rfl) (all_B (List.replicate 32 0)) ?_))
    refine ret_blk Tryd.results20 w.heap.size 24 zero32 _ rfl (((Blk.new_at rfl).alloc _).setRow_same _) Tryd.underlying24 rfl (by kernel_rfl) rfl ?_
    exact ⟨rfl, below_setRow (((Below.refl _ _).alloc (Nat.le_refl _) _).alloc (by simp) _) (Nat.le_refl _) _⟩
  · have hlt := World.block_lt_of_cell? _ _ hc
    go_enter Tryd.func20, Tryd.ntmps20
    go_wp2_with (first
      | (refine wpList_load_blk rfl 24 (.tmp 3) rfl (w.heap.size + 1) rfl 24 zero32 (Blk.new_at (by simp)) _ Tryd.underlying24 rfl (by kernel_rfl) ?_)
      | (refine wpList_store_blk rfl 24 (.tmp 2) (.tmp 18) rfl w.heap.size zero32 rfl rfl 24 zero32 ((Blk.new_at rfl).alloc _) rfl (by kernel_rfl) (all_B (List.replicate 32 0)) ?_))
    refine ret_blk Tryd.results20 w.heap.size 24 zero32 _ rfl (((Blk.new_at rfl).alloc _).setRow_same _) Tryd.underlying24 rfl (by kernel_rfl) rfl ?_
    exact ⟨rfl, below_setRow (((Below.refl _ _).alloc (Nat.le_refl _) _).alloc (by simp) _) (Nat.le_refl _) _⟩

def NB (w wr : World) : Prop := Blk wr w.heap.size 48 hash0 ∧ Blk wr (w.heap.size + 1) 32 [.pointer none, .pointer (some ⟨w.heap.size, 0, none⟩)] ∧ Below w.heap.size w wr
theorem nb_below {w wr w' : World} (h : NB w wr) (hb : Below wr.heap.size wr w') : NB w w' := ⟨h.1.below hb h.1.lt, h.2.1.below hb h.2.1.lt, h.2.2.trans (hb.mono h.2.2.size)⟩
theorem nb_at {w wr : World} (h : NB w wr) (k : Nat) (hk : k < 2) : ∃ p, wr.cell? ⟨w.heap.size + 1, k, none⟩ = some p ∧ Hid (∀ w', NB w w' → Nobody w' p) := by
  obtain rfl | rfl : k = 0 ∨ k = 1 := by omega
  · exact ⟨.pointer none, by rw [h.2.1.cell]; rfl, fun _ _ => .inl rfl⟩
  · exact ⟨.pointer (some ⟨w.heap.size, 0, none⟩), by rw [h.2.1.cell]; rfl, fun w' h' => .inr ⟨_, rfl, by rw [h'.1.cell]; rfl⟩⟩
set_option maxRecDepth 100000 in
set_option maxHeartbeats 1000000 in
theorem nobody_any (A : Option Addr) (n c : Nat) (w : World) (hK : KeysIn w) :
    Calls Tryd.prog 9 #[.slice A n c] w fun e w' => e = .returned (.bool true) ∧ Below w.heap.size w w' := by
  go_enter Tryd.func9, Tryd.ntmps9
  go_wp2_with (refine wpList_run (.build 48 #[]) rfl rfl (.agg hash0.toArray) (by kernel_rfl) ?_)
  go_loopw [9] (fun i wr => ∃ k : Nat, k ≤ 2 ∧ i = .int .i64 (k : Int) ∧ NB w wr) (fun i _ => 2 - (intOf i).toNat)
  case atStart => exact ⟨0, by omega, rfl, (Blk.new_at rfl).alloc _, Blk.new_at (cs := [.pointer none, .pointer (some ⟨w.heap.size, 0, none⟩)]) (by simp), ((Below.refl _ _).alloc (Nat.le_refl _) _).alloc (by simp) _⟩
  case round =>
    obtain ⟨k, hk, rfl, hN⟩ := hrel
    by_cases hlt : k < 2
    · obtain ⟨p, hc, hp⟩ := nb_at hN k hlt
      go_wp2_with (go_at_call 19; refine (write_nobody p A n c _ (hp.out _ hN)).mono ?_; rintro e w1 ⟨rfl, rfl⟩)
      refine (hsum_nobody p _ (hp.out _ hN)).mono ?_
      rintro e w2 ⟨rfl, hb2⟩
      replace hN := nb_below hN hb2
      clear hb2 hc
      go_wp2_with (first
        | (refine wpList_neq_dig_g rfl (.tmp 17) (.tmp 18) _ rfl (List.replicate 32 0) (List.replicate 32 0) rfl rfl rfl rfl ?_)
        | (go_at_call 21; refine (len_nobody p _ (hp.out _ hN)).mono ?_; rintro e w1 ⟨rfl, rfl⟩)
        | (go_at_call 22; refine (copy_nobody p _ (hp.out _ hN)).mono ?_; rintro e w1 ⟨rfl, rfl⟩))
      go_roundw
      case rel => exact ⟨k + 1, by omega, by go_num, hN⟩
      case measure => simp [intOf]; omega
    · obtain rfl : k = 2 := by omega
      go_wp2_with (go_at_call 14; refine (alive_any _ (keys_below hK hN.2.2)).mono ?_; rintro e w1 ⟨rfl, hb1⟩)
      go_ret
      exact ⟨rfl, hN.2.2.trans (hb1.mono hN.2.2.size)⟩
end Go.Proofs.YtahjfnnmaalnoaaDoor
