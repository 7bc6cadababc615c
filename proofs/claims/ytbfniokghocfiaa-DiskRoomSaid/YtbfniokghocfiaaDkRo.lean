/- The walk of DiskRoom. -/
import Derived.Test.YtbfniokghocfiaaDkSy
namespace Go.Proofs.Ytbfniokghocfiaa
open Go.RowKit Go.Maps Go.Sort

theorem turn_refused {S : DS} (c : Call) (h : c.errno S ≠ 0) : (c.turn S).now = S.now := by
  unfold Call.errno at h
  unfold Call.turn
  split
  · exact tick_now S
  · rename_i ho
    rw [if_neg ho] at h
    rw [if_neg h]
    exact tick_now S
def lens (l : List (List UInt8 × List UInt8)) : Nat := (l.map fun p => p.2.length).sum
theorem lens_snoc (l : List (List UInt8 × List UInt8)) (p : List UInt8 × List UInt8) : lens (l ++ [p]) = lens l + p.2.length := by simp [lens]
theorem lens_take_le (l : List (List UInt8 × List UInt8)) (k : Nat) : lens (l.take k) ≤ lens l := by
  conv => rhs; rw [← List.take_append_drop k l]
  unfold lens
  rw [List.map_append, List.sum_append]
  omega
theorem runs_room : ∀ (l : List ActD) (S : DS), (runs S l).room = S.room
  | [], _ => rfl
  | x :: l, S => by
    have := runs_room l (x.call.turn S)
    rw [turn_room] at this
    exact this
set_option maxRecDepth 100000 in
set_option maxHeartbeats 4000000 in
theorem room_any (r : Int) (hr : (Lit.int .i64 r).wf = true) (acts : List ActD) (A : Option Addr) (c : Nat) (w : World) (hA : AIn w A acts) :
    Calls Try.prog 5 #[.int .i64 r, .slice A acts.length c] w fun e w' => e = .returned (.bool true) ∧ Below w.heap.size w w' := by
  have hrb : -9223372036854775808 ≤ r ∧ r ≤ 9223372036854775807 := by simpa [Lit.wf, IntKind.min, IntKind.max, IntKind.signed, IntKind.bits] using hr
  obtain ⟨hr1, hr2⟩ := hrb
  have hq1 : -59 ≤ Int.tmod r 60 := by have := Int.tmod_lt_of_pos (-r) (show (0 : Int) < 60 by omega); rw [Int.neg_tmod] at this; omega
  have hq2 : Int.tmod r 60 ≤ 59 := by have := Int.tmod_lt_of_pos r (show (0 : Int) < 60 by omega); omega
  obtain ⟨q, hq⟩ : ∃ q, q = Int.tmod r 60 := ⟨_, rfl⟩
  rw [← hq] at hq1 hq2
  have hqt : Int.tmod r 60 = q := hq.symm
  clear hq hr
  have hm1 : 0 ≤ (q + 60) % 60 := by omega
  have hm2 : (q + 60) % 60 < 60 := by omega
  have hnew := Lib.hid (new_any ((q + 60) % 60) w hm1 (by omega))
  obtain ⟨m, hm⟩ : ∃ m, m = (q + 60) % 60 := ⟨_, rfl⟩
  have hmE : (q + 60) % 60 = m := hm.symm
  rw [hmE] at hnew hm1 hm2
  clear hm
  have hal := hA.len
  replace hA := Lib.hid hA
  go_enter Try.func5, Try.ntmps5
  go_wp2_with fail
  refine hnew.out.mono ?_
  rintro e w1 ⟨g, L, rfl, hd, hL, hb⟩
  have h1 : Hid (PlayRel w g (DS.new m) w1) := Lib.hid ⟨L, hd, hL, hb⟩
  clear hd hL hb
  go_wp2_with fail
  refine (alive_any w1).mono ?_
  rintro e w2 ⟨rfl, hb2⟩
  have h2 := Lib.hid (h1.out.below hb2)
  clear hb2 hqt hmE
  go_wp2_with fail
  go_loopw [36] (fun i wr => ∃ k : Nat, k ≤ acts.length ∧ i = .int .i64 k ∧ PlayRel w g (runs (DS.new m) (acts.take k)) wr) (fun i _ => acts.length - (intOf i).toNat)
  case atStart => exact ⟨0, Nat.zero_le _, rfl, by simpa [runs] using h2.out⟩
  case round =>
    obtain ⟨k, hk, rfl, hPl⟩ := hrel
    by_cases hlt : k < acts.length
    · obtain ⟨b, o, rfl, hc⟩ := hA.out.rd (by omega)
      have hcr : ∀ j v, acts[k].cells[j]? = some v → wr.cell? ⟨b, o + k * 7 + j, none⟩ = some v := fun j v hv => by
        have h1 := hc k acts[k] (List.getElem?_eq_getElem hlt) j v hv
        have hlt : b < w.heap.size := World.block_lt_of_cell? _ _ h1
        rw [hPl.base.cell (p := ⟨b, o + k * 7 + j, none⟩) hlt]
        exact h1
      have hxo := hA.out.ok acts[k] (List.getElem_mem hlt)
      have hinv : Inv (runs (DS.new m) (acts.take k)) (0 + (acts.take k).length) := Inv.runs _ (Inv.new (by omega) (by omega))
      obtain ⟨ho, hf⟩ := runs_live (acts.take k) (S := DS.new m) rfl rfl
      have hrm := runs_room (acts.take k) (DS.new m)
      have htk : runs (DS.new m) (acts.take (k + 1)) = acts[k].call.turn (runs (DS.new m) (acts.take k)) := by
        rw [List.take_succ_eq_append_getElem hlt, runs_snoc]
      obtain ⟨x, hx⟩ : ∃ x, x = acts[k] := ⟨_, rfl⟩
      obtain ⟨S, hS⟩ : ∃ S, S = runs (DS.new m) (acts.take k) := ⟨_, rfl⟩
      rw [← hx] at hcr hxo htk
      rw [← hS] at hPl hinv htk ho hf hrm
      have hlen : 0 + (acts.take k).length < 4398046511104 := by rw [List.length_take]; omega
      have hask := hinv.asked hlen
      have hinv2 := hinv.turn x.call
      obtain ⟨ho2, _⟩ := turn_live x.call ho hf
      have hrm2 := turn_room x.call S
      have href := turn_refused (S := S) x.call
      obtain ⟨S2, hS2⟩ : ∃ S2, S2 = x.call.turn S := ⟨_, rfl⟩
      rw [← hS2] at hinv2 ho2 hrm2 htk href
      have hsum2 : (fSum S2.now : Int) ≤ m := by have := hinv2.sum; rw [hrm2, hrm] at this; exact this
      have hfl : lens (fFiles S2.now) = fSum S2.now := names_sum hinv2.now
      have hfsm := files_small hinv2
      have hfsm1 := files_small hinv
      clear hx hS hc
      have hb1 : Below wr.heap.size wr ((wr.alloc (.cells #[Value.int .i64 0, .bool false, .string ⟨#[]⟩, .string ⟨#[]⟩, .string ⟨#[]⟩, .int .i64 0, .slice none 0 0] 37)).setRow wr.heap.size x.cells.toArray) := below_setRow ((Below.refl _ _).alloc (Nat.le_refl _) _) (Nat.le_refl _) _
      have hbox : Blk ((wr.alloc (.cells #[Value.int .i64 0, .bool false, .string ⟨#[]⟩, .string ⟨#[]⟩, .string ⟨#[]⟩, .int .i64 0, .slice none 0 0] 37)).setRow wr.heap.size x.cells.toArray) wr.heap.size 37 x.cells := (Blk.new_at (cs := zeroAct) rfl).setRow_same _
      obtain ⟨W2, hW2⟩ : ∃ W2, W2 = (wr.alloc (.cells #[Value.int .i64 0, .bool false, .string ⟨#[]⟩, .string ⟨#[]⟩, .string ⟨#[]⟩, .int .i64 0, .slice none 0 0] 37)).setRow wr.heap.size x.cells.toArray := ⟨_, rfl⟩
      rw [← hW2] at hb1 hbox
      have hP2 := hPl.below hb1
      have hcall : Hid (∀ wr', PlayRel w g S wr' → Calls Try.prog 15 #[.pointer (some ⟨g, 0, none⟩), .agg x.cells.toArray] wr' fun e w' => e = .returned (.int .i64 (x.call.errno S)) ∧ PlayRel w g S2 w' ∧ KeepF wr' w') := Lib.hid (fun wr' h => by rw [hS2]; exact pr_call x h hask hxo)
      have hfiles : Hid (∀ wr', PlayRel w g S wr' → Calls Try.prog 10 #[.pointer (some ⟨g, 0, none⟩)] wr' (FilesTo wr' (fFiles S.now))) := Lib.hid (fun wr' h => pr_files h ho (by have := hinv.few; omega) hinv.keys)
      have hfiles2 : Hid (∀ wr', PlayRel w g S2 wr' → Calls Try.prog 10 #[.pointer (some ⟨g, 0, none⟩)] wr' (FilesTo wr' (fFiles S2.now))) := Lib.hid (fun wr' h => pr_files h ho2 (by have := hinv2.few; omega) hinv2.keys)
      have hsize : Hid (∀ wr', PlayRel w g S2 wr' → Calls Try.prog 16 #[.pointer (some ⟨g, 0, none⟩)] wr' fun e w' => e = .returned (.int .i64 (fSum S2.now)) ∧ Below wr'.heap.size wr' w') := Lib.hid (fun wr' h => pr_size h ho2 (by omega))
      have hsz : Hid ((Try.prog.info? 37).map (·.size) = some x.cells.length) := Lib.hid actSz
      have hone := Lib.hid (act_one x)
      have hzl : Hid (zeroAct.length = x.cells.length) := Lib.hid rfl
      obtain ⟨cs, hcs⟩ : ∃ cs, cs = x.cells := ⟨_, rfl⟩
      rw [← hcs] at hcr hbox hcall hsz hone hzl hW2
      obtain ⟨e0, he0⟩ : ∃ e0, e0 = x.call.errno S := ⟨_, rfl⟩
      rw [← he0] at hcall href
      obtain ⟨t, ht⟩ : ∃ t, t = fSum S2.now := ⟨_, rfl⟩
      rw [← ht] at hsize hsum2 hfl
      obtain ⟨fl2, hfl2⟩ : ∃ fl2, fl2 = fFiles S2.now := ⟨_, rfl⟩
      obtain ⟨fl1, hfl1⟩ : ∃ fl1, fl1 = fFiles S.now := ⟨_, rfl⟩
      have hsm : Hid (e0 ≠ 0 → fl2 = fl1) := Lib.hid (fun h => by rw [hfl1, hfl2, href h])
      rw [← hfl1] at hfiles hfsm1
      rw [← hfl2] at hfiles2 hfsm hfl
      replace hfl := Lib.hid hfl
      replace hcs := Lib.hid hcs
      replace hW2 := Lib.hid hW2
      replace hcr := Lib.hid hcr
      replace hbox := Lib.hid hbox
      replace hP2 := Lib.hid hP2
      replace htk := Lib.hid htk
      clear hPl hb1 hask hxo hinv hinv2 ho hf ho2 hrm hrm2 href he0 ht hfl2 hfl1 hS2 hlen
      have i1 : (0 : Int) ≤ (k : Int) := by omega
      have i2 : (k : Int) < (acts.length : Int) := by omega
      have dsz : decide (m < (t : Int)) = false := by simp; omega
      by_cases he : e0 = 0
      · have dE : (e0 != 0) = false := by simp [he]
        clear he
        go_wp2_with (first
          | (refine wpList_load_mid rfl 37 (.tmp 38) rfl b (o + k * 7) rfl cs _ hcr.out Try.underlying37 rfl hsz.out ?_; go_frame)
          | (refine wpList_store_blk rfl 37 (.tmp 8) (.tmp 39) rfl wr.heap.size cs rfl rfl 37 zeroAct (Blk.new_at rfl) hzl.out hsz.out hone.out ?_; rw [show (wr.alloc (.cells #[Value.int .i64 0, .bool false, .string ⟨#[]⟩, .string ⟨#[]⟩, .string ⟨#[]⟩, .int .i64 0, .slice none 0 0] 37)).setRow wr.heap.size cs.toArray = W2 from hW2.out.symm]; go_frame))
        refine (hfiles.out _ hP2.out).mono ?_
        rintro e w3 ⟨v3, rfl, hf3, hb3⟩
        obtain ⟨A3, c3, rfl⟩ := files_form hf3
        have h3 := Lib.hid (hP2.out.below hb3)
        have hbox3 := Lib.hid (hbox.out.below hb3 hbox.out.lt)
        replace hf3 := Lib.hid hf3
        clear hb3
        go_wp2_with (refine wpList_load_blk rfl 37 (.tmp 8) rfl wr.heap.size rfl 37 cs hbox3.out _ Try.underlying37 rfl hsz.out ?_; go_frame)
        refine (hcall.out _ h3.out).mono ?_
        rintro e w4 ⟨rfl, h4, k4⟩
        have hf4 := Lib.hid (k4 _ _ _ hf3.out)
        replace h4 := Lib.hid h4
        clear k4
        go_wp2_with fail
        refine (hfiles2.out _ h4.out).mono ?_
        rintro e w5 ⟨v5, rfl, hf5, hb5⟩
        obtain ⟨A5, c5, rfl⟩ := files_form hf5
        have h5 := Lib.hid (h4.out.below hb5)
        have hf4' := Lib.hid (hf4.out.below hb5)
        replace hf5 := Lib.hid hf5
        clear hb5
        go_wp2_with fail
        refine (hsize.out _ h5.out).mono ?_
        rintro e w6 ⟨rfl, hb6⟩
        have h6 := Lib.hid (h5.out.below hb6)
        have hf4b := Lib.hid (hf4'.out.below hb6)
        have hf5b := Lib.hid (hf5.out.below hb6)
        clear hb6
        go_wp2_with fail
        have h7 := h6
        have hf7 := hf5b
        obtain ⟨w7, hw7⟩ : ∃ w7, w7 = w6 := ⟨_, rfl⟩
        rw [← hw7] at h7 hf7 ⊢
        clear hw7
        go_loopw [63, 12] (fun i n w8 => ∃ j : Nat, j ≤ fl2.length ∧ i = .int .i64 j ∧ n = .int .i64 (lens (fl2.take j)) ∧ Below w7.heap.size w7 w8) (fun i _ _ => fl2.length - (intOf i).toNat)
        case atStart => exact ⟨0, Nat.zero_le _, rfl, rfl, Below.refl _ _⟩
        case round =>
          obtain ⟨j, hj, rfl, rfl, hb8⟩ := hrel
          have hle := lens_take_le fl2 j
          rw [hfl.out] at hle
          by_cases hlt2 : j < fl2.length
          · obtain ⟨g4, cs4, r4, e4, hB4, hc4⟩ := hf7.out.blk (by omega)
            subst e4
            obtain ⟨qq, hqq⟩ := fCells_drop fl2 j hlt2
            have hd4 : cs4.drop (j * 2) = [strV fl2[j].1, strV fl2[j].2] ++ (qq ++ r4) := by
              rw [hc4, List.drop_append_of_le_length (by rw [fCells_len]; omega), hqq, List.append_assoc]
            have hB4' := hB4.below hb8 hB4.lt
            have hsn : lens (fl2.take (j + 1)) = lens (fl2.take j) + fl2[j].2.length := by rw [List.take_succ_eq_append_getElem hlt2, lens_snoc]
            have hle2 := lens_take_le fl2 (j + 1)
            rw [hfl.out] at hle2
            obtain ⟨a, ha⟩ : ∃ a, a = fl2[j].1 := ⟨_, rfl⟩
            obtain ⟨d, hbb⟩ : ∃ d, d = fl2[j].2 := ⟨_, rfl⟩
            rw [← ha, ← hbb] at hd4
            rw [← hbb] at hsn
            clear hqq hc4 ha hbb hB4
            have hb9 : Below wr.heap.size wr ((wr.alloc (.cells #[Value.string ⟨#[]⟩, .string ⟨#[]⟩] 35)).setRow wr.heap.size #[strV a, strV d]) := below_setRow ((Below.refl _ _).alloc (Nat.le_refl _) _) (Nat.le_refl _) _
            have hF2 : Blk ((wr.alloc (.cells #[Value.string ⟨#[]⟩, .string ⟨#[]⟩] 35)).setRow wr.heap.size #[strV a, strV d]) wr.heap.size 35 [strV a, strV d] := (Blk.new_at (cs := [.string ⟨#[]⟩, .string ⟨#[]⟩]) rfl).setRow_same _
            obtain ⟨W3, hW3⟩ : ∃ W3, W3 = (wr.alloc (.cells #[Value.string ⟨#[]⟩, .string ⟨#[]⟩] 35)).setRow wr.heap.size #[strV a, strV d] := ⟨_, rfl⟩
            rw [← hW3] at hb9 hF2
            have m1 : W3.cell? ⟨wr.heap.size, 1, none⟩ = some (strV d) := by rw [hF2.cell]; rfl
            have hbW3 : Hid (Below w7.heap.size w7 W3) := Lib.hid (hb8.trans (hb9.mono hb8.size))
            have hone2 : Hid (∀ u ∈ [strV a, strV d], u.oneCell' = true) := Lib.hid (by simp [strV, Value.oneCell'])
            have hz1 : (lens (fl2.take j) : Int) + (d.length : Int) ≤ 60 := by omega
            replace hW3 := Lib.hid hW3
            replace hd4 := Lib.hid hd4
            replace hB4' := Lib.hid hB4'
            replace hsn := Lib.hid hsn
            clear hb8 hb9 hF2 hle2 hle
            unfold strV at m1
            generalize hln : lens (fl2.take j) = ln at hz1 hsn ⊢
            clear hln
            have i3 : (0 : Int) ≤ (j : Int) := by omega
            have i4 : (j : Int) < (fl2.length : Int) := by omega
            go_wp2_with (first
              | (refine wpList_load_part rfl 35 (.tmp 65) rfl g4 (j * 2) rfl 35 cs4 [strV a, strV d] (qq ++ r4) hB4'.out hd4.out _ Try.underlying35 rfl fileSz ?_; go_frame)
              | (refine wpList_store_blk rfl 35 (.tmp 14) (.tmp 66) rfl wr.heap.size [strV a, strV d] rfl rfl 35 [.string ⟨#[]⟩, .string ⟨#[]⟩] (Blk.new_at rfl) rfl fileSz hone2.out ?_; rw [show (wr.alloc (.cells #[Value.string ⟨#[]⟩, .string ⟨#[]⟩] 35)).setRow wr.heap.size [strV a, strV d].toArray = W3 from hW3.out.symm]; go_frame))
            go_roundw
            case rel => exact ⟨j + 1, by omega, by go_num, by rw [hsn.out]; go_num, hbW3.out⟩
            case measure => simp [intOf]; omega
          · have hje : j = fl2.length := by omega
            subst hje
            rw [List.take_length, hfl.out]
            clear hle
            have h8 := Lib.hid (h7.out.below hb8)
            clear hb8
            have hbe : ((t : Int) != (t : Int)) = false := by simp
            go_wp2_with fail
            refine (hsize.out _ h8.out).mono ?_
            rintro e w9 ⟨rfl, hb9⟩
            have h9 := Lib.hid (h8.out.below hb9)
            clear hb9
            go_wp2
            go_roundw
            case rel => exact ⟨k + 1, by omega, by go_num, by rw [htk.out]; exact h9.out⟩
            case measure => simp [intOf]; omega
      · have dE : (e0 != 0) = true := by simp [he]
        have hsame := hsm.out he
        clear he
        subst hsame
        go_wp2_with (first
          | (refine wpList_load_mid rfl 37 (.tmp 38) rfl b (o + k * 7) rfl cs _ hcr.out Try.underlying37 rfl hsz.out ?_; go_frame)
          | (refine wpList_store_blk rfl 37 (.tmp 8) (.tmp 39) rfl wr.heap.size cs rfl rfl 37 zeroAct (Blk.new_at rfl) hzl.out hsz.out hone.out ?_; rw [show (wr.alloc (.cells #[Value.int .i64 0, .bool false, .string ⟨#[]⟩, .string ⟨#[]⟩, .string ⟨#[]⟩, .int .i64 0, .slice none 0 0] 37)).setRow wr.heap.size cs.toArray = W2 from hW2.out.symm]; go_frame))
        refine (hfiles.out _ hP2.out).mono ?_
        rintro e w3 ⟨v3, rfl, hf3, hb3⟩
        obtain ⟨A3, c3, rfl⟩ := files_form hf3
        have h3 := Lib.hid (hP2.out.below hb3)
        have hbox3 := Lib.hid (hbox.out.below hb3 hbox.out.lt)
        replace hf3 := Lib.hid hf3
        clear hb3
        go_wp2_with (refine wpList_load_blk rfl 37 (.tmp 8) rfl wr.heap.size rfl 37 cs hbox3.out _ Try.underlying37 rfl hsz.out ?_; go_frame)
        refine (hcall.out _ h3.out).mono ?_
        rintro e w4 ⟨rfl, h4, k4⟩
        have hf4 := Lib.hid (k4 _ _ _ hf3.out)
        replace h4 := Lib.hid h4
        clear k4
        go_wp2_with fail
        refine (hfiles2.out _ h4.out).mono ?_
        rintro e w5 ⟨v5, rfl, hf5, hb5⟩
        obtain ⟨A5, c5, rfl⟩ := files_form hf5
        have h5 := Lib.hid (h4.out.below hb5)
        have hf4' := Lib.hid (hf4.out.below hb5)
        replace hf5 := Lib.hid hf5
        clear hb5
        go_wp2_with fail
        refine (hsize.out _ h5.out).mono ?_
        rintro e w6 ⟨rfl, hb6⟩
        have h6 := Lib.hid (h5.out.below hb6)
        have hf4b := Lib.hid (hf4'.out.below hb6)
        have hf5b := Lib.hid (hf5.out.below hb6)
        clear hb6
        go_wp2_with fail
        refine (same_any fl2 A3 A5 c3 c5 _ _ w6 hf4b.out hf5b.out hfsm).mono ?_
        rintro e w7 ⟨rfl, hb7⟩
        have h7 := Lib.hid (h6.out.below hb7)
        have hf7 := Lib.hid (hf5b.out.below hb7)
        clear hb7
        go_wp2_with fail
        go_loopw [63, 12] (fun i n w8 => ∃ j : Nat, j ≤ fl2.length ∧ i = .int .i64 j ∧ n = .int .i64 (lens (fl2.take j)) ∧ Below w7.heap.size w7 w8) (fun i _ _ => fl2.length - (intOf i).toNat)
        case atStart => exact ⟨0, Nat.zero_le _, rfl, rfl, Below.refl _ _⟩
        case round =>
          obtain ⟨j, hj, rfl, rfl, hb8⟩ := hrel
          have hle := lens_take_le fl2 j
          rw [hfl.out] at hle
          by_cases hlt2 : j < fl2.length
          · obtain ⟨g4, cs4, r4, e4, hB4, hc4⟩ := hf7.out.blk (by omega)
            subst e4
            obtain ⟨qq, hqq⟩ := fCells_drop fl2 j hlt2
            have hd4 : cs4.drop (j * 2) = [strV fl2[j].1, strV fl2[j].2] ++ (qq ++ r4) := by
              rw [hc4, List.drop_append_of_le_length (by rw [fCells_len]; omega), hqq, List.append_assoc]
            have hB4' := hB4.below hb8 hB4.lt
            have hsn : lens (fl2.take (j + 1)) = lens (fl2.take j) + fl2[j].2.length := by rw [List.take_succ_eq_append_getElem hlt2, lens_snoc]
            have hle2 := lens_take_le fl2 (j + 1)
            rw [hfl.out] at hle2
            obtain ⟨a, ha⟩ : ∃ a, a = fl2[j].1 := ⟨_, rfl⟩
            obtain ⟨d, hbb⟩ : ∃ d, d = fl2[j].2 := ⟨_, rfl⟩
            rw [← ha, ← hbb] at hd4
            rw [← hbb] at hsn
            clear hqq hc4 ha hbb hB4
            have hb9 : Below wr.heap.size wr ((wr.alloc (.cells #[Value.string ⟨#[]⟩, .string ⟨#[]⟩] 35)).setRow wr.heap.size #[strV a, strV d]) := below_setRow ((Below.refl _ _).alloc (Nat.le_refl _) _) (Nat.le_refl _) _
            have hF2 : Blk ((wr.alloc (.cells #[Value.string ⟨#[]⟩, .string ⟨#[]⟩] 35)).setRow wr.heap.size #[strV a, strV d]) wr.heap.size 35 [strV a, strV d] := (Blk.new_at (cs := [.string ⟨#[]⟩, .string ⟨#[]⟩]) rfl).setRow_same _
            obtain ⟨W3, hW3⟩ : ∃ W3, W3 = (wr.alloc (.cells #[Value.string ⟨#[]⟩, .string ⟨#[]⟩] 35)).setRow wr.heap.size #[strV a, strV d] := ⟨_, rfl⟩
            rw [← hW3] at hb9 hF2
            have m1 : W3.cell? ⟨wr.heap.size, 1, none⟩ = some (strV d) := by rw [hF2.cell]; rfl
            have hbW3 : Hid (Below w7.heap.size w7 W3) := Lib.hid (hb8.trans (hb9.mono hb8.size))
            have hone2 : Hid (∀ u ∈ [strV a, strV d], u.oneCell' = true) := Lib.hid (by simp [strV, Value.oneCell'])
            have hz1 : (lens (fl2.take j) : Int) + (d.length : Int) ≤ 60 := by omega
            replace hW3 := Lib.hid hW3
            replace hd4 := Lib.hid hd4
            replace hB4' := Lib.hid hB4'
            replace hsn := Lib.hid hsn
            clear hb8 hb9 hF2 hle2 hle
            unfold strV at m1
            generalize hln : lens (fl2.take j) = ln at hz1 hsn ⊢
            clear hln
            have i3 : (0 : Int) ≤ (j : Int) := by omega
            have i4 : (j : Int) < (fl2.length : Int) := by omega
            go_wp2_with (first
              | (refine wpList_load_part rfl 35 (.tmp 65) rfl g4 (j * 2) rfl 35 cs4 [strV a, strV d] (qq ++ r4) hB4'.out hd4.out _ Try.underlying35 rfl fileSz ?_; go_frame)
              | (refine wpList_store_blk rfl 35 (.tmp 14) (.tmp 66) rfl wr.heap.size [strV a, strV d] rfl rfl 35 [.string ⟨#[]⟩, .string ⟨#[]⟩] (Blk.new_at rfl) rfl fileSz hone2.out ?_; rw [show (wr.alloc (.cells #[Value.string ⟨#[]⟩, .string ⟨#[]⟩] 35)).setRow wr.heap.size [strV a, strV d].toArray = W3 from hW3.out.symm]; go_frame))
            go_roundw
            case rel => exact ⟨j + 1, by omega, by go_num, by rw [hsn.out]; go_num, hbW3.out⟩
            case measure => simp [intOf]; omega
          · have hje : j = fl2.length := by omega
            subst hje
            rw [List.take_length, hfl.out]
            clear hle
            have h8 := Lib.hid (h7.out.below hb8)
            clear hb8
            have hbe : ((t : Int) != (t : Int)) = false := by simp
            go_wp2_with fail
            refine (hsize.out _ h8.out).mono ?_
            rintro e w9 ⟨rfl, hb9⟩
            have h9 := Lib.hid (h8.out.below hb9)
            clear hb9
            go_wp2
            go_roundw
            case rel => exact ⟨k + 1, by omega, by go_num, by rw [htk.out]; exact h9.out⟩
            case measure => simp [intOf]; omega
    · have hP := Lib.hid hPl
      clear hPl
      go_wp2
      go_ret
      exact ⟨rfl, hP.out.base⟩
end Go.Proofs.Ytbfniokghocfiaa
