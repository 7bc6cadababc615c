/- The walk of digest.Parse. -/
import Derived.Test.YtlenmkemjaaaoaaDoorParse
namespace Go.Proofs.YtlenmkemjaaaoaaDoor
open Go.RowKit

theorem pr_drewN {w wr : World} {l : List UInt8} {k : Nat} (h : PR w l k wr) (n : Nat) : PR w l k (wr.drewN n) := ⟨h.1, h.2.1.drewN n, h.2.2.1.drewN n, below_drewN h.2.2.2 n⟩

set_option maxRecDepth 100000 in
set_option maxHeartbeats 2000000 in
theorem parse_any (l : List UInt8) (w : World) :
    Calls Tryd.prog 44 #[.string ⟨l.toArray⟩] w fun e w' => e = .returned (.tuple #[.agg ((pd l).map B).toArray, .bool (pok l)]) ∧ Below w.heap.size w w' := by
  have hz := (zero_of_info zeros32).1
  have hsz : (⟨l.toArray⟩ : ByteArray).size = l.length := by simp [ByteArray.size]
  obtain ⟨n, hn⟩ : ∃ n, n = l.length := ⟨_, rfl⟩
  rw [← hn] at hsz
  by_cases h64 : n = 64
  · have hl64 : l.length = 64 := by omega
    have hb : (((n : Nat) : Int) != 64) = false := by rw [bne_eq_false_iff_eq]; omega
    have hge : 64 ≤ n := by omega
    have hle64 : n ≤ 64 := by omega
    replace hn := Lib.hid hn
    replace h64 := Lib.hid h64
    replace hl64 := Lib.hid hl64
    go_enter Tryd.func44, Tryd.ntmps44
    go_wp2
    go_loopw [13] (fun i wr => ∃ k : Nat, k ≤ 64 ∧ i = .int .i64 (k : Int) ∧ PR w l k wr) (fun i _ => 64 - (intOf i).toNat)
    case atStart => exact ⟨0, by omega, rfl, fun _ h => absurd h (by omega), (Blk.new_at rfl).alloc _, Blk.new_at (cs := zero32) (by simp), ((Below.refl _ _).alloc (Nat.le_refl _) _).alloc (by simp) _⟩
    case round =>
      obtain ⟨k, hk, rfl, hP⟩ := hrel
      by_cases hlt : k < 64
      · have hkl : k < l.length := by rw [hl64.out]; exact hlt
        obtain ⟨c, hc⟩ : ∃ c, c = l.getD k 0 := ⟨_, rfl⟩
        have hidx := index_str l k hkl
        rw [← hc] at hidx
        obtain ⟨wo, rfl⟩ : ∃ wo : World, wo = wr := ⟨_, rfl⟩
        replace hc := Lib.hid hc
        replace hkl := Lib.hid hkl
        have hkn : k < n := by omega
        go_wp2
        go_loopw [6] (fun i wr => ∃ m : Nat, m ≤ 16 ∧ i = .int .i64 (m : Int) ∧ Hid (∀ j, j < m → hexD j ≠ c) ∧ PR w l k wr) (fun i _ => 16 - (intOf i).toNat)
        case atStart => exact ⟨0, by omega, rfl, fun _ h => absurd h (by omega), hP⟩
        case round =>
          clear hP
          obtain ⟨m, hm, rfl, hno, hP⟩ := hrel
          by_cases hm16 : m < 16
          · have hx := index_hex64 m hm16
            simp only [digitsB, hexDigits] at hx
            have hdec : decide ((m : Int) < 16) = true := by rw [decide_eq_true_iff]; omega
            by_cases heq : hexD m = c
            · have hbb : (bv (hexD m) != bv c) = false := by rw [heq]; simp
              have hdv : digitV c = m := digitV_found c m hm16 heq
              have hb16 : (((m : Nat) : Int) == 16) = false := by rw [beq_eq_false_iff_ne]; omega
              replace hdv := Lib.hid hdv
              replace heq := Lib.hid heq
              go_wp2
              go_quiet (fail)
              replace hP := pr_drewN hP nq
              generalize wr.drewN nq = wr2 at hP ⊢
              obtain ⟨x, hxx⟩ : ∃ x, x = (dAfter l k).getD (k / 2) 0 := ⟨_, rfl⟩
              have hcell : wr2.cell? ⟨w.heap.size + 1, k / 2, none⟩ = some (B x) := by
                rw [hP.2.2.1.cell, hxx]
                have : k / 2 < (dAfter l k).length := by rw [dAfter_length]; omega
                simp [this]
              have hfz := hP.2.2.1.frozen (k / 2)
              replace hxx := Lib.hid hxx
              go_wp2
              go_roundw
              case rel =>
                refine ⟨k + 1, by omega, by go_num, ?_, hP.2.1.far (by simp) _, ?_, hP.2.2.2.setCell (by simp) _⟩
                · intro j hj
                  rcases Nat.lt_or_ge j k with h | h
                  · exact hP.1 j h
                  · obtain rfl : j = k := by omega
                    rw [← hc.out, hdv.out]; exact hm16
                · have h3 := hP.2.2.1.set_ (k / 2) (B (x * 16 + UInt8.ofNat m))
                  rw [← List.map_set] at h3
                  show Blk _ _ _ ((dAfter l (k + 1)).map B)
                  rw [dAfter, ← hxx.out, ← hc.out, hdv.out, step_or x m hm16]
                  exact h3
              case measure => simp [intOf]; omega
            · have hbb : (bv (hexD m) != bv c) = true := by rw [bne_iff_ne]; exact fun e => heq (bv_inj e)
              replace heq := Lib.hid heq
              go_wp2
              go_quiet (fail)
              go_wp2
              go_roundw
              case rel =>
                refine ⟨m + 1, by omega, by go_num, ?_, pr_drewN hP nq⟩
                intro j hj
                rcases Nat.lt_or_ge j m with h | h
                · exact hno.out j h
                · obtain rfl : j = m := by omega
                  exact heq.out
              case measure => simp [intOf]; omega
          · have hm2 : 16 ≤ m := by omega
            have hdec : decide ((m : Int) < 16) = false := by rw [decide_eq_false_iff_not]; omega
            have hb16 : (((m : Nat) : Int) == 16) = true := by rw [beq_iff_eq]; omega
            have hdv : digitV c = 16 := digitV_none c (fun j hj => hno.out j (by omega))
            have hp : pok l = false := pok_not k hkl.out (by rw [← hc.out, hdv]; omega)
            have hd : pd l = List.replicate 32 0 := by unfold pd; rw [hp]; rfl
            replace hp := Lib.hid hp
            replace hd := Lib.hid hd
            clear hdv
            go_wp2
            go_quiet (fail)
            replace hP := pr_drewN hP nq
            generalize wr.drewN nq = wr2 at hP ⊢
            go_wp2_with (first
              | (refine wpList_run (.build 57 #[]) rfl rfl (.agg zero32.toArray) (by kernel_rfl) ?_)
              | (refine wpList_store_blk rfl 57 (.tmp 2) (.tmp 30) rfl w.heap.size zero32 rfl rfl 57 zero32 hP.2.1 rfl (by kernel_rfl) (all_B (List.replicate 32 0)) ?_))
            refine ret_blk2 Tryd.results44 w.heap.size 57 zero32 _ (.bool false) rfl rfl (hP.2.1.setRow_same _) Tryd.underlying57 rfl (by kernel_rfl) rfl ?_
            exact ⟨by rw [hp.out, hd.out]; rfl, below_setRow hP.2.2.2 (Nat.le_refl _) _⟩
      · obtain rfl : k = 64 := by omega
        have hp : pok l = true := pok_of hl64.out hP.1
        have hd : pd l = dAfter l 64 := by unfold pd; rw [hp]; rfl
        have hB := hP.2.2.1
        rw [← hd] at hB
        have hsz2 : (Tryd.prog.info? 57).map (·.size) = some ((pd l).map B).length := by rw [List.length_map, pd_length]; kernel_rfl
        have hlen2 : zero32.length = ((pd l).map B).length := by rw [List.length_map, pd_length]; rfl
        replace hp := Lib.hid hp
        replace hd := Lib.hid hd
        replace hsz2 := Lib.hid hsz2
        replace hlen2 := Lib.hid hlen2
        go_wp2_with (first
          | (refine wpList_load_blk rfl 57 (.tmp 4) rfl (w.heap.size + 1) rfl 57 ((pd l).map B) hB _ Tryd.underlying57 rfl hsz2.out ?_)
          | (refine wpList_store_blk rfl 57 (.tmp 2) (.tmp 43) rfl w.heap.size ((pd l).map B) rfl rfl 57 zero32 hP.2.1 hlen2.out hsz2.out (all_B _) ?_))
        refine ret_blk2 Tryd.results44 w.heap.size 57 ((pd l).map B) _ (.bool true) rfl rfl (hP.2.1.setRow_same _) Tryd.underlying57 rfl hsz2.out rfl ?_
        exact ⟨by rw [hp.out], below_setRow hP.2.2.2 (Nat.le_refl _) _⟩
  · have hb : (((n : Nat) : Int) != 64) = true := by rw [bne_iff_ne]; omega
    have hp : pok l = false := pok_len (by omega)
    have hd : pd l = List.replicate 32 0 := by unfold pd; rw [hp]; rfl
    rw [hp, hd]
    replace hn := Lib.hid hn
    clear hp hd
    go_enter Tryd.func44, Tryd.ntmps44
    go_wp2_with (first
      | (refine wpList_load_blk rfl 57 (.tmp 4) rfl (w.heap.size + 1) rfl 57 zero32 (Blk.new_at (by simp)) _ Tryd.underlying57 rfl (by kernel_rfl) ?_)
      | (refine wpList_store_blk rfl 57 (.tmp 2) (.tmp 10) rfl w.heap.size zero32 rfl rfl 57 zero32 ((Blk.new_at rfl).alloc _) rfl (by kernel_rfl) (all_B (List.replicate 32 0)) ?_))
    refine ret_blk2 Tryd.results44 w.heap.size 57 zero32 _ (.bool false) rfl rfl (((Blk.new_at rfl).alloc _).setRow_same _) Tryd.underlying57 rfl (by kernel_rfl) rfl ?_
    exact ⟨rfl, below_setRow (((Below.refl _ _).alloc (Nat.le_refl _) _).alloc (by simp) _) (Nat.le_refl _) _⟩
end Go.Proofs.YtlenmkemjaaaoaaDoor
