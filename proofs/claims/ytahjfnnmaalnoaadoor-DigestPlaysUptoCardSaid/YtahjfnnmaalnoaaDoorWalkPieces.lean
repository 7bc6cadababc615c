/- The walk of DigestPieces. -/
import Derived.Test.YtahjfnnmaalnoaaDoorArrEq
import Derived.Test.YtahjfnnmaalnoaaDoorAlive
import Derived.Test.YtahjfnnmaalnoaaDoorWalkSorts
namespace Go.Proofs.YtahjfnnmaalnoaaDoor
open Go.RowKit

set_option maxHeartbeats 400000 in
theorem hlen_any (g : Nat) (msg : List UInt8) (w : World) (h : HashIs w g msg) :
    Calls Tryd.prog 21 #[.pointer (some ⟨g, 0, none⟩)] w fun e w' => e = .returned (.int .i64 (msg.length : Int)) ∧ w = w' := by
  obtain ⟨rest, hr, ht, hB⟩ := h
  have hc0 : w.cell? ⟨g, 0, none⟩ = some (.bool true) := by rw [hB.cell]; rfl
  have hc73 : w.cell? ⟨g, 73, none⟩ = some (.int .i64 (msg.length : Int)) := by rw [hB.cell]; exact hashCells_73 _ _ _ _ hr
  clear hr ht
  go_enter Tryd.func21, Tryd.ntmps21
  go_wp2
  go_ret
  exact ⟨rfl, rfl⟩

/-- A slice of slices of bytes. -/
def RowsIn (w : World) (A : Option Addr) (xss : List (List UInt8)) : Prop :=
  ∀ k, k < xss.length → ∃ b off Ak ck, A = some ⟨b, off, none⟩ ∧ b < w.heap.size ∧ w.cell? ⟨b, off + k, none⟩ = some (.slice Ak (xss.getD k []).length ck) ∧ (xss.getD k []).length ≤ ck ∧ Rd w (· < w.heap.size) Ak ((xss.getD k []).map B)
def PC (w : World) (g B0 : Nat) (m : List UInt8) (v : Value) (wr : World) : Prop :=
  HashIs wr g m ∧ wr.ownsRow B0 5 1 v m.length (m.map B) ∧ Below w.heap.size w wr ∧ B0 ≤ wr.heap.size
theorem hashIs_lt {w : World} {g : Nat} {m : List UInt8} (h : HashIs w g m) : g < w.heap.size := by
  obtain ⟨_, _, _, hB⟩ := h; exact hB.lt
theorem pc_below {w wr w' : World} {g B0 : Nat} {m : List UInt8} {v : Value} (h : PC w g B0 m v wr) (hb : Below wr.heap.size wr w') : PC w g B0 m v w' := by
  obtain ⟨h1, h2, h3, h4⟩ := h
  refine ⟨hashIs_keep h1 (hb.block _ (hashIs_lt h1)), ?_, h3.trans (hb.mono h3.size), Nat.le_trans h4 hb.size⟩
  refine h2.kept (row := none) (grown_of_below hb) ?_
  cases v.ownBlock with
  | none => exact .inl rfl
  | some k => exact .inr (by simp)
theorem flat_succ (xss : List (List UInt8)) (k : Nat) (h : k < xss.length) : (xss.take (k + 1)).flatten = (xss.take k).flatten ++ xss.getD k [] := by
  rw [List.take_succ_eq_append_getElem h, List.flatten_append]
  simp only [List.flatten_cons, List.flatten_nil, List.append_nil]
  congr 1
  simp [h]
theorem flat_le (xss : List (List UInt8)) (k : Nat) : (xss.take k).flatten.length ≤ xss.flatten.length := by
  conv => rhs; rw [← List.take_append_drop k xss, List.flatten_append, List.length_append]
  omega

set_option maxRecDepth 100000 in
set_option maxHeartbeats 2000000 in
theorem pieces_any (xss : List (List UInt8)) (A : Option Addr) (cap : Nat) (w : World) (hR : RowsIn w A xss) (hlen : xss.flatten.length ≤ 1048576) (hn : xss.length ≤ 1048576) (hK : KeysIn w) :
    Calls Tryd.prog 7 #[.slice A xss.length cap] w fun e w' => e = .returned (.bool true) ∧ Below w.heap.size w w' := by
  obtain ⟨n, hnn⟩ : ∃ n, n = xss.length := ⟨_, rfl⟩
  rw [← hnn] at hn ⊢
  replace hnn := Lib.hid hnn
  replace hlen := Lib.hid hlen
  go_enter Tryd.func7, Tryd.ntmps7
  go_wp2_with fail
  refine (new_any _).mono ?_
  rintro e w1 ⟨g, rfl, hg, hB1, hb1⟩
  have hH1 := hashIs_new hB1
  clear hB1
  go_wp2_with fail
  refine (alive_any _ (keys_below hK hb1)).mono ?_
  rintro e w2 ⟨rfl, hb2⟩
  have hH2 := hashIs_keep hH1 (hb2.block _ (hashIs_lt hH1))
  have hbl := hb1.trans (hb2.mono hb1.size)
  have hgB := hashIs_lt hH2
  clear hH1 hb1 hb2
  obtain ⟨B0, hB0⟩ : ∃ B0, B0 = w2.heap.size := ⟨_, rfl⟩
  rw [← hB0] at hgB
  have hB0le : B0 ≤ w2.heap.size := by omega
  clear hB0
  go_wp2
  go_loopw [16, 4] (fun i v wr => ∃ k : Nat, k ≤ n ∧ i = .int .i64 (k : Int) ∧ PC w g B0 (xss.take k).flatten v wr) (fun i _ _ => n - (intOf i).toNat)
  case atStart => exact ⟨0, by omega, rfl, hH2, World.ownsRow_nil _ _ _ _, hbl, hB0le⟩
  case round =>
    clear hH2 hbl hB0le
    obtain ⟨k, hk, rfl, hP⟩ := hrel
    obtain ⟨m, hm⟩ : ∃ m, m = (xss.take k).flatten := ⟨_, rfl⟩
    have hml : m.length ≤ 1048576 := by rw [hm]; exact Nat.le_trans (flat_le _ _) hlen.out
    rw [← hm] at hP
    replace hm := Lib.hid hm
    obtain ⟨A1, cap1, rfl, hcap1, _⟩ := own_form hP.2.1
    by_cases hlt : k < n
    · obtain ⟨b, off, Ak, ck, rfl, hbw, hcell, hlk, hrd⟩ := hR k (by rw [← hnn.out]; exact hlt)
      obtain ⟨xs, hxs⟩ : ∃ xs, xs = xss.getD k [] := ⟨_, rfl⟩
      rw [← hxs] at hcell hlk hrd
      have hc : wr.cell? ⟨b, off + k, none⟩ = some (.slice Ak xs.length ck) := by rw [hP.2.2.1.cell (p := ⟨b, off + k, none⟩) hbw]; exact hcell
      have hmx : (xss.take (k + 1)).flatten = m ++ xs := by rw [flat_succ _ _ (by rw [← hnn.out]; exact hlt), hm.out, hxs]
      have hsum : m.length + xs.length ≤ 1048576 := by
        have := flat_le xss (k + 1)
        rw [hmx, List.length_append] at this
        exact Nat.le_trans this hlen.out
      replace hmx := Lib.hid hmx
      replace hxs := Lib.hid hxs
      have hrd1 : Rd wr (· < w.heap.size) Ak (xs.map B) := hrd.below hP.2.2.1
      have hw := write_any g m xs Ak ck wr hP.1 (hrd1.weak (fun b _ hb => by omega)) hlk (by omega) (keys_below hK hP.2.2.1)
      replace hw := Lib.hid hw
      clear hcell
      go_wp2_with fail
      refine hw.out.mono ?_
      rintro e w3 ⟨rfl, hH3, hG3⟩
      have hown3 := hP.2.1.kept hG3 (by
        have := hP.2.1.lt
        cases hob : (Value.slice A1 m.length cap1).ownBlock with
        | none => exact .inl rfl
        | some q => exact .inr (by have := (this q hob).1; simp; omega))
      have hbl3 : Below w.heap.size w w3 := hP.2.2.1.trans (below_of_grown hG3 hP.2.2.1.size hg)
      have hle3 : B0 ≤ w3.heap.size := Nat.le_trans hP.2.2.2 hG3.size
      have hrd3 : Rd w3 (· < w.heap.size) Ak (xs.map B) := hrd.below hbl3
      clear hP hG3 hw hc hrd hrd1
      go_wp2_with (at_builtin; refine wpList_append_rd _ rfl (.tmp 23) (.tmp 24) 22 rfl B0 5 (B 0) 1 1 Tryd.underlying22 info8 (.slice A1 m.length cap1) m.length (m.map B) rfl hown3 (· < w.heap.size) Ak xs.length ck (xs.map B) rfl (by simp) hrd3 (all_B _) (by unfold maxLen; omega) (by omega) hle3 ?_; intro v' w4 hown4 hg4 _)
      have hb4 := own_below hown3 hg4 hle3
      have hP4 : PC w g B0 (m ++ xs) v' w4 := by
        refine ⟨hashIs_keep hH3 (hb4.block _ hgB), ?_, hbl3.trans (hb4.mono (by omega)), Nat.le_trans hle3 hg4.size⟩
        rw [List.length_append, List.map_append]; exact hown4
      clear hown3 hown4 hg4 hb4 hH3 hbl3 hle3 hrd3
      obtain ⟨m2, hm2⟩ : ∃ m2, m2 = m ++ xs := ⟨_, rfl⟩
      have hm2l : m2.length ≤ 1048576 := by rw [hm2, List.length_append]; exact hsum
      rw [← hm2] at hP4
      rw [← hm2] at hmx
      replace hm2 := Lib.hid hm2
      obtain ⟨A2, cap2, rfl, hcap2, _⟩ := own_form hP4.2.1
      refine (hsum_any g m2 w4 hP4.1 (by omega) (keys_below hK hP4.2.2.1)).mono ?_
      rintro e w5 ⟨rfl, hb5⟩
      have hP5 := pc_below hP4 hb5
      clear hP4 hb5
      go_wp2_with fail
      refine (sum_any m2 A2 cap2 w5 ((own_rd hP5.2.1).weak (fun b hb _ => hb)) hcap2 (by omega) (keys_below hK hP5.2.2.1)).mono ?_
      rintro e w6 ⟨rfl, hb6⟩
      have hP6 := pc_below hP5 hb6
      clear hP5 hb6
      have hnl : (((m2.length : Nat) : Int) != ((m2.length : Nat) : Int)) = false := by simp
      go_wp2_with (first
        | (refine wpList_neq_dig_g rfl (.tmp 27) (.tmp 29) _ rfl (shaOf m2) (shaOf m2) rfl rfl (shaOf_length _) (shaOf_length _) ?_; simp only [beq_self_eq_true, Bool.not_true])
        | (go_at_call 21; refine (hlen_any g m2 _ hP6.1).mono ?_; rintro e w7 ⟨rfl, rfl⟩))
      go_roundw
      case rel =>
        refine ⟨k + 1, by omega, by go_num, ?_⟩
        rw [hmx.out]; exact hP6
      case measure => simp [intOf]; omega
    · obtain ⟨kn, hkn⟩ : ∃ kn, kn = k := ⟨_, rfl⟩
      rw [← hkn] at hlt hk ⊢
      clear hkn
      have hge : n ≤ kn := by omega
      go_wp2_with fail
      refine (hsum_any g m _ hP.1 (by omega) (keys_below hK hP.2.2.1)).mono ?_
      rintro e w5 ⟨rfl, hb5⟩
      have hP5 := pc_below hP hb5
      clear hP hb5
      go_wp2_with fail
      refine (sum_any m A1 cap1 w5 ((own_rd hP5.2.1).weak (fun b hb _ => hb)) hcap1 (by omega) (keys_below hK hP5.2.2.1)).mono ?_
      rintro e w6 ⟨rfl, hb6⟩
      go_wp2_with (refine wpList_eql_dig rfl (.tmp 40) (.tmp 42) _ rfl (shaOf m) (shaOf m) rfl rfl (shaOf_length _) (shaOf_length _) ?_)
      go_ret
      exact ⟨by simp, hP5.2.2.1.trans (hb6.mono hP5.2.2.1.size)⟩
end Go.Proofs.YtahjfnnmaalnoaaDoor
