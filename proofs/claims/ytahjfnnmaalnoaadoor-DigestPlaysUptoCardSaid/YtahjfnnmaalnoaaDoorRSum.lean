/- The walk of the reference's Sum: the same digest. -/
import Derived.Test.YtahjfnnmaalnoaaDoorRMix
import Derived.Test.YtahjfnnmaalnoaaDoorRWhole
import Derived.Test.YtahjfnnmaalnoaaDoorSumA
namespace Go.Proofs.YtahjfnnmaalnoaaDoor
open Go.RowKit

theorem stBytes_at (s : St) (k : Nat) (hk : k < 32) : w2b (shr (s.list.getD (k / 4) 0) (24 - 8 * (k % 4))) = (stBytes s).getD k 0 := by
  obtain ⟨q, r, rfl, hq, hr⟩ : ∃ q r, k = 4 * q + r ∧ q < 8 ∧ r < 4 := ⟨k / 4, k % 4, by omega, by omega, by omega⟩
  rw [show (4 * q + r) / 4 = q by omega, show (4 * q + r) % 4 = r by omega]
  have h0 : ∀ x : UInt32, w2b (shr x 0) = w2b x := fun x => by unfold w2b; rw [shr_toNat]; simp
  match q, hq, r, hr with
  | 0, _, 0, _ => rfl
  | 0, _, 1, _ => rfl
  | 0, _, 2, _ => rfl
  | 0, _, 3, _ => exact h0 _
  | 1, _, 0, _ => rfl
  | 1, _, 1, _ => rfl
  | 1, _, 2, _ => rfl
  | 1, _, 3, _ => exact h0 _
  | 2, _, 0, _ => rfl
  | 2, _, 1, _ => rfl
  | 2, _, 2, _ => rfl
  | 2, _, 3, _ => exact h0 _
  | 3, _, 0, _ => rfl
  | 3, _, 1, _ => rfl
  | 3, _, 2, _ => rfl
  | 3, _, 3, _ => exact h0 _
  | 4, _, 0, _ => rfl
  | 4, _, 1, _ => rfl
  | 4, _, 2, _ => rfl
  | 4, _, 3, _ => exact h0 _
  | 5, _, 0, _ => rfl
  | 5, _, 1, _ => rfl
  | 5, _, 2, _ => rfl
  | 5, _, 3, _ => exact h0 _
  | 6, _, 0, _ => rfl
  | 6, _, 1, _ => rfl
  | 6, _, 2, _ => rfl
  | 6, _, 3, _ => exact h0 _
  | 7, _, 0, _ => rfl
  | 7, _, 1, _ => rfl
  | 7, _, 2, _ => rfl
  | 7, _, 3, _ => exact h0 _
/-- The first k bytes, then bytes 0. -/
def dkb (s : St) (k : Nat) : List UInt8 := (stBytes s).take k ++ List.replicate (32 - k) 0
theorem dkb_length (s : St) (k : Nat) (hk : k ≤ 32) : (dkb s k).length = 32 := by
  have : (stBytes s).length = 32 := rfl
  simp [dkb, this]; omega
theorem dkb_step (s : St) (k : Nat) (hk : k < 32) : ((dkb s k).map B).set k (B ((stBytes s).getD k 0)) = (dkb s (k + 1)).map B := by
  have hl : (stBytes s).length = 32 := rfl
  have e : ((stBytes s).take k).length = k := by simp; omega
  rw [← List.map_set]
  congr 1
  unfold dkb
  rw [List.set_append_right _ _ (by omega), e, Nat.sub_self, List.take_succ_eq_append_getElem (by omega), List.append_assoc]
  congr 1
  rw [show 32 - k = (32 - (k + 1)) + 1 by omega, List.replicate_succ, List.set_cons_zero]
  simp [hl, hk]
theorem dkb_32 (s : St) : dkb s 32 = stBytes s := rfl
theorem padEnd_len (n : Nat) : (padEnd n).length = padZ n + 9 := by unfold padEnd; rw [padTo_length]
theorem whole_len (xs : List UInt8) : 64 * ((xs ++ padEnd xs.length).length / 64) = (xs ++ padEnd xs.length).length := by
  rw [List.length_append, padEnd_len]; unfold padZ; omega
/-- What the last loop keeps. -/
def HR (w : World) (st : St) (g d : Nat) (k : Nat) (wr : World) : Prop :=
  Blk wr w.heap.size 24 zero32 ∧ Blk wr d 24 ((dkb st k).map B) ∧ (∀ i, i < 8 → wr.cell? ⟨g, i, none⟩ = some (W (st.list.getD i 0))) ∧ Below w.heap.size w wr
theorem hr_step {w wr : World} {st : St} {g d k : Nat} (h : HR w st g d k wr) (hk : k < 32) (hgd : g ≠ d) (hd : w.heap.size < d) (b : UInt8) (hb : b = (stBytes st).getD k 0) : HR w st g d (k + 1) (wr.setCell ⟨d, k, none⟩ (B b)) := by
  obtain ⟨h1, h2, h3, h4⟩ := h
  subst hb
  have h2' := h2.set_ k (B ((stBytes st).getD k 0))
  rw [dkb_step st k hk] at h2'
  refine ⟨h1.far (by simp; omega) _, h2', fun i hi => ?_, h4.setCell (by simp; omega) _⟩
  rw [World.cell?_of_block (Below.heap_setCell wr ⟨d, k, none⟩ _ g hgd)]
  exact h3 i hi
theorem list_len (s : St) : s.list.length = 8 := rfl
theorem take_succ_list (s : St) (k : Nat) (hk : k < 8) : s.list.take (k + 1) = s.list.take k ++ [s.list.getD k 0] := by
  have h : k < s.list.length := by rw [list_len]; exact hk
  rw [List.take_succ_eq_append_getElem h, List.getD_eq_getElem?_getD, List.getElem?_eq_getElem h]
  rfl
theorem rword_begin (S : ByteArray) (hS : S = ⟨beginL.toArray⟩) (k : Nat) (hk : k < 8) (x : UInt32) (hx : st0.list.getD k 0 = x) (w : World) :
    Calls Tryd.prog 26 #[.string S, .int .i64 (k : Int)] w fun e w' => e = .returned (W x) ∧ w = w' := by
  subst hS
  have h := rword_any beginL k (by rw [begin_len]; omega) (by rw [begin_len]; omega) w
  rw [begin_all ⟨k, hk⟩, hx] at h
  exact h
/-- A state lies in a row of eight words. -/
def StIn (wr : World) (g : Nat) (s : St) : Prop := ∀ i, i < 8 → wr.cell? ⟨g, i, none⟩ = some (W (s.list.getD i 0))
theorem stIn_below {B0 : Nat} {w wr : World} {g : Nat} {s : St} (h : StIn w g s) (hb : Below B0 w wr) (hg : g < B0) : StIn wr g s := fun i hi => by
  rw [hb.cell (p := ⟨g, i, none⟩) hg]; exact h i hi

attribute [local go_sem] w_shr w2b_mod
set_option maxRecDepth 100000 in
set_option maxHeartbeats 4000000 in
theorem rsum_any (xs : List UInt8) (A : Option Addr) (cap : Nat) (w : World) (hR : Rd w (· < w.heap.size) A (xs.map B)) (hn : xs.length ≤ 140737488351240) :
    Calls Tryd.prog 13 #[.slice A xs.length cap] w fun e w' => e = .returned (.agg ((shaOf xs).map B).toArray) ∧ Below w.heap.size w w' := by
  obtain ⟨n, hnn⟩ : ∃ n, n = xs.length := ⟨_, rfl⟩
  rw [← hnn]
  replace hnn := Lib.hid hnn
  have hz := (zero_of_info zeros32).1
  go_enter Tryd.func13, Tryd.ntmps13
  go_wp2
  have hB1 : Blk (w.alloc (.cells zero32.toArray 24)) w.heap.size 24 zero32 := Blk.new_at rfl
  have hb1 : Below w.heap.size w (w.alloc (.cells zero32.toArray 24)) := (Below.refl _ _).alloc (Nat.le_refl _) _
  have hlt1 := hB1.lt
  generalize w.alloc (.cells zero32.toArray 24) = w1 at hB1 hb1 hlt1 ⊢
  go_loopw [4, 3] (fun i v wr => ∃ k : Nat, k ≤ 8 ∧ i = .int .i64 (k : Int) ∧ RM w1 (st0.list.take k) v wr) (fun i _ _ => 8 - (intOf i).toNat)
  case atStart => exact ⟨0, by omega, rfl, World.ownsRow_nil _ _ _ _, Below.refl _ _⟩
  case round =>
    obtain ⟨k, hk, rfl, hM⟩ := hrel
    by_cases hlt : k < 8
    · as_aux_lemma =>
        obtain ⟨ws, hws⟩ : ∃ ws, ws = st0.list.take k := ⟨_, rfl⟩
        have hwl : ws.length = k := by rw [hws]; simp [list_len]; omega
        rw [← hws] at hM
        obtain ⟨A1, cap1, rfl, hcap1, _⟩ := own_form hM.1
        have hM1 := hM.1
        rw [hwl] at hcap1 hM1 ⊢
        generalize hy : st0.list.getD k 0 = y
        have hkey := Lib.hid (fun S hS => rword_begin S hS k hlt y hy)
        replace hy := Lib.hid hy
        replace hws := Lib.hid hws
        replace hwl := Lib.hid hwl
        have hsz := hM.2.size
        go_wp2_with (first
          | (go_at_call 26; refine (hkey.out _ (by kernel_rfl) _).mono ?_; rintro e w' ⟨rfl, rfl⟩)
          | (at_builtin; refine wpList_append_rd _ rfl (.tmp 13) (.tmp 16) 52 rfl w1.heap.size 43 (W 0) 1 4 Tryd.underlying52 info32 (.slice A1 k cap1) k (ws.map W) rfl (own_alloc hM1 _) (fun _ => True) (some ⟨wr.heap.size, 0, none⟩) 1 1 [_] rfl rfl (rd_one wr _ _) (by simp [Value.oneCell']) (by unfold maxLen; omega) (by omega) (by simp; omega) ?_; intro v' w4 hown4 hg4 _))
        go_roundw
        case rel =>
          refine ⟨k + 1, by omega, by go_num, ?_⟩
          rw [take_succ_list _ _ hlt, ← hws.out, hy.out]
          exact rm_grow hM hwl.out hown4 (by rw [hwl.out]; exact hg4)
        case measure => simp [intOf]; omega
    · obtain ⟨k1, hk1⟩ : ∃ k1, k1 = k := ⟨_, rfl⟩
      rw [← hk1] at hM hlt hk ⊢
      have hk8 : k1 = 8 := by omega
      rw [hk8] at hM
      have hge : 8 ≤ k1 := by omega
      clear hk8 hk1
      have hM1 := hM.1
      obtain ⟨g0, c0, rfl, hg0, hg0lt, hcap0, hcell⟩ := own_at hM1 (by decide)
      have hS : StIn wr g0 st0 := fun i hi => hcell i _ (by rw [show st0.list.take 8 = st0.list from rfl]; exact map_W_at _ _ (by rw [list_len]; exact hi))
      have hbl := hM.2
      rw [show (st0.list.take 8).length = 8 from rfl]
      clear hcell hM hM1
      obtain ⟨w2, rfl⟩ : ∃ w2 : World, w2 = wr := ⟨_, rfl⟩
      have hb2 := hb1.trans (hbl.mono (Nat.le_of_lt hlt1))
      have hR2 : Rd w2 (· < w2.heap.size) A (xs.map B) := (hR.below hb2).weak (fun b hb _ => hb)
      have hwh := whole_any xs A cap w2 hR2 hn
      rw [← hnn.out] at hwh
      replace hwh := Lib.hid hwh
      go_wp2_with (go_at_call 27; refine hwh.out.mono ?_; rintro e w3 ⟨v3, rfl, hM3⟩)
      clear hwh hR2
      obtain ⟨ys, hys⟩ : ∃ ys, ys = xs ++ padEnd n := ⟨_, rfl⟩
      rw [← hys] at hM3
      have hyl : 64 * (ys.length / 64) = ys.length := by rw [hys, hnn.out]; exact whole_len xs
      have hyb : 0 < ys.length ∧ ys.length ≤ 140737488351340 := by
        have hp : padZ n < 64 := by unfold padZ; omega
        rw [hys, List.length_append, padEnd_len]
        omega
      obtain ⟨ga, ca, rfl, hga, hgalt, hca, hcells⟩ := own_at hM3.1 hyb.1
      replace hcells : ∀ i, i < ys.length → w3.cell? ⟨ga, i, none⟩ = some (B (ys.getD i 0)) := fun i hi => hcells i _ (by simp [hi])
      have hfin : shaOf xs = stBytes (blocksS ys (ys.length / 64)) := by rw [hys, hnn.out]; rfl
      obtain ⟨N, hN⟩ : ∃ N, N = ys.length / 64 := ⟨_, rfl⟩
      rw [← hN] at hyl hfin
      rw [← hyl] at hca hyb hcells ⊢
      have hb3 := hb2.trans (hM3.2.mono hb2.size)
      have hg0' : g0 < w3.heap.size := Nat.lt_of_lt_of_le hg0lt hM3.2.size
      have hS3 : StIn w3 g0 st0 := stIn_below hS hM3.2 hg0lt
      have hB3 : Blk w3 w.heap.size 24 zero32 := (hB1.below hbl hlt1).below hM3.2 (Nat.lt_of_lt_of_le hlt1 hbl.size)
      have hw3 : w.heap.size < w3.heap.size := hB3.lt
      have hg0w : w.heap.size < g0 := Nat.lt_of_lt_of_le hlt1 hg0
      replace hcells := Lib.hid hcells
      replace hfin := Lib.hid hfin
      replace hyl := Lib.hid hyl
      replace hys := Lib.hid hys
      clear hM3 hN hS hbl hb1 hB1 hb2
      go_loopw [6, 3] (fun i v wr => ∃ (k g c : Nat), k ≤ N ∧ i = .int .i64 ((64 * k : Nat) : Int) ∧ v = .slice (some ⟨g, 0, none⟩) 8 c ∧ g < wr.heap.size ∧ w.heap.size < g ∧ StIn wr g (blocksS ys k) ∧ Below w3.heap.size w3 wr) (fun i _ _ => 64 * N - (intOf i).toNat)
      case atStart => exact ⟨0, g0, c0, by omega, rfl, rfl, hg0', hg0w, hS3, Below.refl _ _⟩
      case round =>
        clear hS3 hg0' hg0w hg0 hg0lt
        obtain ⟨k, g, c, hk, rfl, rfl, hglt, hgw, hS, hb4⟩ := hrel
        obtain ⟨m, hm⟩ : ∃ m, m = 64 * k := ⟨_, rfl⟩
        rw [← hm]
        by_cases hlt : k < N
        · as_aux_lemma =>
            have hmN : m + 64 ≤ 64 * N := by omega
            have hmlt : m < 64 * N := by omega
            have hcut : cutA (some ⟨ga, 0, none⟩) ca m 1 = some ⟨ga, m, none⟩ := by
              unfold cutA; rw [if_neg (by omega)]; simp [addr_add]
            have hsub : m + 64 - m = 64 := by omega
            have hmix := rmix_any (blocksS ys k) g 0 c ga m (ca - m) ((ys.drop m).take 64) wr (Nat.lt_of_lt_of_le hgalt hb4.size) hglt
              (fun i hi => by
                rw [hb4.cell (p := ⟨ga, m + i, none⟩) hgalt, hcells.out (m + i) (by omega)]
                congr 2
                simp [List.getD_eq_getElem?_getD, hi])
              (fun i hi => by rw [Nat.zero_add]; exact hS i hi)
            replace hmix := Lib.hid hmix
            replace hcut := Lib.hid hcut
            replace hsub := Lib.hid hsub
            replace hm := Lib.hid hm
            go_wp2_with (first
              | (refine wpList_slice_mid rfl 22 (.tmp 27) (.tmp 28) (.tmp 30) rfl 5 1 Tryd.underlying22 (by kernel_rfl) (some ⟨ga, 0, none⟩) (64 * N) ca m (m + 64) rfl rfl rfl (by omega) (by omega) ?_; rw [hcut.out, hsub.out])
              | (go_at_call 28; refine hmix.out.mono ?_; rintro e w5 ⟨⟨g5, rfl, hg5, hg5lt, hc5⟩, hb5⟩))
            go_roundw
            case rel =>
              refine ⟨k + 1, g5, 8, by omega, ?_, rfl, hg5lt, by have := hb4.size; omega, ?_, hb4.trans (hb5.mono hb4.size)⟩
              · rw [hm.out]; go_num
              · rw [hm.out] at hc5; exact hc5
            case measure => simp [intOf]; omega
        · have hkN : k = N := by omega
          rw [hkN] at hS hm
          have hge : 64 * N ≤ m := by omega
          obtain ⟨st3, hst3⟩ : ∃ s, s = blocksS ys N := ⟨_, rfl⟩
          rw [← hst3] at hS hfin
          clear hst3 hkN hm
          have hB4 : Blk (wr.alloc (.cells zero32.toArray 24)) w.heap.size 24 zero32 := (hB3.below hb4 hw3).alloc _
          have hM : HR w st3 g wr.heap.size 0 (wr.alloc (.cells zero32.toArray 24)) :=
            ⟨hB4, Blk.new_at rfl, stIn_below hS ((Below.refl _ _).alloc (Nat.le_refl _) _) hglt, (hb3.trans (hb4.mono hb3.size)).alloc (by have := hb3.size; have := hb4.size; omega) _⟩
          have hgd : g ≠ wr.heap.size := by omega
          have hdw : w.heap.size < wr.heap.size := by have := hb4.size; omega
          clear hS hB4 hB3 hb4 hb3
          go_wp2
          generalize wr.alloc (.cells zero32.toArray 24) = w6 at hM ⊢
          generalize wr.heap.size = d at hM hgd hdw ⊢
          go_loopw [8] (fun i wr => ∃ k : Nat, k ≤ 32 ∧ i = .int .i64 (k : Int) ∧ HR w st3 g d k wr) (fun i _ => 32 - (intOf i).toNat)
          case atStart => exact ⟨0, by omega, rfl, hM⟩
          case round =>
            clear hM
            obtain ⟨k, hk32, rfl, hM⟩ := hrel
            by_cases hlt4 : k < 32
            · as_aux_lemma =>
                have hbyte := stBytes_at st3 k hlt4
                have hc := hM.2.2.1 (k / 4) (by omega)
                generalize st3.list.getD (k / 4) 0 = x at hc hbyte
                obtain ⟨d0, hd0⟩ : ∃ v, wr.cell? ⟨d, k, none⟩ = some v := by
                  rw [hM.2.1.cell]
                  have hl : k < ((dkb st3 k).map B).length := by rw [List.length_map, dkb_length _ _ (by omega)]; exact hlt4
                  exact ⟨_, List.getElem?_eq_getElem hl⟩
                have hf0 := hM.2.1.frozen k
                replace hbyte := Lib.hid hbyte
                go_wp2
                go_roundw
                case rel => exact ⟨k + 1, by omega, by go_num, hr_step hM hlt4 hgd hdw _ hbyte.out⟩
                case measure => simp [intOf]; omega
            · obtain rfl : k = 32 := by omega
              have hM2 := hM.2.1
              rw [dkb_32] at hM2
              go_wp2_with (first
                | (refine wpList_load_blk rfl 24 (.tmp 7) rfl d rfl 24 ((stBytes st3).map B) hM2 _ Tryd.underlying24 rfl (by kernel_rfl) ?_)
                | (refine wpList_store_blk rfl 24 (.tmp 2) (.tmp 51) rfl w.heap.size ((stBytes st3).map B) rfl rfl 24 zero32 hM.1 rfl (by kernel_rfl) (all_B _) ?_))
              refine ret_blk Tryd.results13 w.heap.size 24 ((stBytes st3).map B) _ rfl (hM.1.setRow_same _) Tryd.underlying24 rfl (by kernel_rfl) rfl ?_
              exact ⟨by rw [hfin.out], below_setRow hM.2.2.2 (Nat.le_refl _) _⟩
end Go.Proofs.YtahjfnnmaalnoaaDoor
