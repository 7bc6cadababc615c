/- The walk of DiskEnds. -/
import Derived.Test.YtbfniokghocfiaaDkTw
namespace Go.Proofs.Ytbfniokghocfiaa
open Go.RowKit Go.Maps Go.Sort

/-- The acts that are no Sync. -/
def stepN (S : DS) (x : ActD) : DS := if x.which = 3 then S else x.call.turn S
def runsN (S : DS) (l : List ActD) : DS := l.foldl stepN S
theorem runsN_snoc (S : DS) (l : List ActD) (x : ActD) : runsN S (l ++ [x]) = stepN (runsN S l) x := by simp [runsN]
theorem Inv.stepN {S : DS} {n : Nat} (h : Inv S n) (x : ActD) : Inv (stepN S x) (n + 1) := by
  unfold Proofs.Ytbfniokghocfiaa.stepN
  split
  · exact h.mono (by omega)
  · exact h.turn _
theorem Inv.runsN {n : Nat} : ∀ (l : List ActD) {S : DS}, Inv S n → Inv (runsN S l) (n + l.length) := by
  intro l
  induction l generalizing n with
  | nil => intro S h; simpa [Proofs.Ytbfniokghocfiaa.runsN] using h
  | cons x l ih =>
    intro S h
    have := ih (h.stepN x)
    simp only [List.length_cons]
    rw [show n + (l.length + 1) = n + 1 + l.length from by omega]
    exact this
theorem stepN_live {S : DS} (x : ActD) (ho : S.off = false) (hf : S.fuse = -1) : (stepN S x).off = false ∧ (stepN S x).fuse = -1 := by
  unfold stepN
  split
  · exact ⟨ho, hf⟩
  · exact turn_live _ ho hf
theorem runsN_live : ∀ (l : List ActD) {S : DS}, S.off = false → S.fuse = -1 → (runsN S l).off = false ∧ (runsN S l).fuse = -1
  | [], _, ho, hf => ⟨ho, hf⟩
  | x :: l, S, ho, hf => by
    obtain ⟨h1, h2⟩ := stepN_live x ho hf
    exact runsN_live l h1 h2
theorem turn_sure (c : Call) (S : DS) (hc : c ≠ .sync) : (c.turn S).sure = S.sure := by
  have hd : ∀ T : DS, (c.done T).sure = T.sure := fun T => by
    cases c with
    | sync => exact absurd rfl hc
    | write s t => rfl
    | remove s => rfl
    | rename s t => rfl
  unfold Call.turn
  split
  · exact tick_sure S
  · split
    · rw [hd, tick_sure]
    · exact tick_sure S
theorem call_sync {x : ActD} (h : x.which ≠ 3) : x.call ≠ .sync := by
  unfold ActD.call
  split
  · simp
  · split
    · simp
    · first
      | (rw [if_neg h]; simp)
      | simp
theorem runsN_sure : ∀ (l : List ActD) (S : DS), (runsN S l).sure = S.sure
  | [], _ => rfl
  | x :: l, S => by
    have h := runsN_sure l (stepN S x)
    have h2 : (stepN S x).sure = S.sure := by
      unfold stepN
      split
      · rfl
      · rename_i h3
        exact turn_sure _ _ (call_sync h3)
    rw [h2] at h
    exact h
theorem intInfo : InfoOf Try.prog 3 (.int .i64 0) 1 8 := ⟨by kernel_rfl, by simp [Value.cells], by omega⟩
def EndRel (w w0 : World) (b6 : Nat) (u6 : Value) (fl : List (List UInt8 × List UInt8)) (g : Nat) (S : DS) (k : Nat) (v : Value) (wr : World) : Prop :=
  PlayRel w g S wr ∧ FilesIs wr b6 u6 fl ∧ wr.ownsRow w0.heap.size 3 1 v k ((List.replicate k (1 : Int)).map intV) ∧ w0.heap.size ≤ wr.heap.size
set_option maxRecDepth 100000 in
set_option maxHeartbeats 4000000 in
theorem ends_any (acts : List ActD) (A : Option Addr) (c : Nat) (more : List ActD) (B : Option Addr) (d : Nat) (w : World) (hA : AIn w A acts) (hB : AIn w B more) :
    Calls Try.prog 7 #[.slice A acts.length c, .slice B more.length d] w fun e w' => e = .returned (.bool true) ∧ Below w.heap.size w w' := by
  have hp := Lib.hid (played_any acts A c w hA.rd hA.ok hA.len)
  have hI := inv_played acts
  obtain ⟨ho, hf⟩ := live_played acts
  obtain ⟨S, hS⟩ : ∃ S, S = runs (DS.new 65536) acts := ⟨_, rfl⟩
  rw [← hS] at hp hI ho hf
  clear hS
  obtain ⟨s1, s2⟩ := sync_now ho hf
  have hI2 := hI.turn .sync
  rw [s2] at hI2
  obtain ⟨S1, hS1⟩ : ∃ S1, S1 = { S with off := false, fuse := -1, sure := S.now, pend := [] } := ⟨_, rfl⟩
  have hn1 : S1.now = S.now := by rw [hS1]
  have hu1 : S1.sure = S.now := by rw [hS1]
  have ho1 : S1.off = false := by rw [hS1]
  have hf1 : S1.fuse = -1 := by rw [hS1]
  have hI1 : Inv S1 0 := by
    rw [hS1]
    exact ⟨hI2.toGood, hI2.keys, hI2.keys', hI2.opn, Nat.le_refl _, hI2.re⟩
  rw [← hS1] at s2
  clear hS1 hI2
  have hal := hA.len
  have hbl := hB.len
  replace hB := Lib.hid hB
  replace hI := Lib.hid hI
  replace hI1 := Lib.hid hI1
  replace ho1 := Lib.hid ho1
  replace hf1 := Lib.hid hf1
  replace hn1 := Lib.hid hn1
  replace hu1 := Lib.hid hu1
  replace s1 := Lib.hid s1
  replace s2 := Lib.hid s2
  clear hA hf ho
  go_enter Try.func7, Try.ntmps7
  go_wp2_with fail
  refine hp.out.mono ?_
  rintro e w1 ⟨g, rfl, h1⟩
  replace h1 := Lib.hid h1
  go_wp2_with fail
  refine (alive_any w1).mono ?_
  rintro e w2 ⟨rfl, hb2⟩
  have h2 := Lib.hid (h1.out.below hb2)
  clear hb2
  go_wp2_with fail
  refine (pr_sync h2.out hI.out.toFit).mono ?_
  rintro e w3 ⟨rfl, h3, _⟩
  rw [s1.out]
  rw [s2.out] at h3
  replace h3 := Lib.hid h3
  go_wp2_with fail
  refine (pr_files h3.out ho1.out (by have := hI1.out.few; omega) hI1.out.keys).mono ?_
  rintro e w4 ⟨v4, rfl, hf4, hb4⟩
  rw [hn1.out] at hf4
  obtain ⟨A4, c4, rfl⟩ := files_form hf4
  have h4 := Lib.hid (h3.out.below hb4)
  obtain ⟨fl, hfl⟩ : ∃ fl, fl = fFiles S.now := ⟨_, rfl⟩
  rw [← hfl] at hf4 ⊢
  replace hfl := Lib.hid hfl
  replace hf4 := Lib.hid hf4
  clear hb4
  go_wp2_with fail
  go_loopw [29, 7] (fun i v wr => ∃ k : Nat, k ≤ more.length ∧ i = .int .i64 k ∧ EndRel w w4 w3.heap.size (.slice A4 fl.length c4) fl g (runsN S1 (more.take k)) k v wr) (fun i _ _ => more.length - (intOf i).toNat)
  case atStart => exact ⟨0, Nat.zero_le _, rfl, by simpa [runsN] using h4.out, hf4.out, ⟨rfl, .inl ⟨rfl, rfl⟩⟩, Nat.le_refl _⟩
  case round =>
    obtain ⟨k, hk, rfl, hPl, hFl, hRo, hSz⟩ := hrel
    obtain ⟨RA, rc, rfl, _, _⟩ := own_form hRo
    have hw4 : w.heap.size ≤ w4.heap.size := h4.out.base.size
    by_cases hlt : k < more.length
    · obtain ⟨b, o, rfl, hc⟩ := hB.out.rd (by omega)
      have hcr : ∀ j v, more[k].cells[j]? = some v → wr.cell? ⟨b, o + k * 7 + j, none⟩ = some v := fun j v hv => by
        have h1 := hc k more[k] (List.getElem?_eq_getElem hlt) j v hv
        have hlt : b < w.heap.size := World.block_lt_of_cell? _ _ h1
        rw [hPl.base.cell (p := ⟨b, o + k * 7 + j, none⟩) hlt]
        exact h1
      have hxo := hB.out.ok more[k] (List.getElem_mem hlt)
      have hinv : Inv (runsN S1 (more.take k)) (0 + (more.take k).length) := Inv.runsN _ hI1.out
      have htk : runsN S1 (more.take (k + 1)) = stepN (runsN S1 (more.take k)) more[k] := by
        rw [List.take_succ_eq_append_getElem hlt, runsN_snoc]
      obtain ⟨x, hx⟩ : ∃ x, x = more[k] := ⟨_, rfl⟩
      obtain ⟨S2, hS2⟩ : ∃ S2, S2 = runsN S1 (more.take k) := ⟨_, rfl⟩
      rw [← hx] at hcr hxo htk
      rw [← hS2] at hPl hinv htk
      have hask := hinv.asked (by rw [List.length_take]; omega)
      clear hx hS2 hc hinv
      have hb1 : Below wr.heap.size wr ((wr.alloc (.cells #[Value.int .i64 0, .bool false, .string ⟨#[]⟩, .string ⟨#[]⟩, .string ⟨#[]⟩, .int .i64 0, .slice none 0 0] 37)).setRow wr.heap.size x.cells.toArray) := below_setRow ((Below.refl _ _).alloc (Nat.le_refl _) _) (Nat.le_refl _) _
      have hbox : Blk ((wr.alloc (.cells #[Value.int .i64 0, .bool false, .string ⟨#[]⟩, .string ⟨#[]⟩, .string ⟨#[]⟩, .int .i64 0, .slice none 0 0] 37)).setRow wr.heap.size x.cells.toArray) wr.heap.size 37 x.cells := (Blk.new_at (cs := zeroAct) rfl).setRow_same _
      obtain ⟨W2, hW2⟩ : ∃ W2, W2 = (wr.alloc (.cells #[Value.int .i64 0, .bool false, .string ⟨#[]⟩, .string ⟨#[]⟩, .string ⟨#[]⟩, .int .i64 0, .slice none 0 0] 37)).setRow wr.heap.size x.cells.toArray := ⟨_, rfl⟩
      rw [← hW2] at hb1 hbox
      have hP2 := hPl.below hb1
      have hF2 := hFl.below hb1
      have hR2 := KeepI.below hb1 _ _ _ _ hRo
      have hS2 : w4.heap.size ≤ W2.heap.size := Nat.le_trans hSz hb1.size
      have m0 : W2.cell? ⟨wr.heap.size, 0, none⟩ = some (.int .i64 x.kind) := by rw [hbox.cell]; rfl
      have hcall : Hid (∀ wr', PlayRel w g S2 wr' → Calls Try.prog 15 #[.pointer (some ⟨g, 0, none⟩), .agg x.cells.toArray] wr' fun e w' => e = .returned (.int .i64 (x.call.errno S2)) ∧ PlayRel w g (x.call.turn S2) w' ∧ KeepF wr' w' ∧ KeepI wr' w' ∧ wr'.heap.size ≤ w'.heap.size) := Lib.hid (fun wr' h => pr_call' x h hask hxo)
      have hsz : Hid ((Try.prog.info? 37).map (·.size) = some x.cells.length) := Lib.hid actSz
      have hone := Lib.hid (act_one x)
      have hzl : Hid (zeroAct.length = x.cells.length) := Lib.hid rfl
      have hk0 := hxo.k0
      have hk1 := hxo.k1
      have hwh : x.which = Int.tmod (Int.tmod x.kind 4 + 4) 4 := rfl
      have hst : stepN S2 x = if x.which = 3 then S2 else x.call.turn S2 := rfl
      obtain ⟨cs, hcs⟩ : ∃ cs, cs = x.cells := ⟨_, rfl⟩
      rw [← hcs] at hcr hbox hcall hsz hone hzl hW2
      obtain ⟨kind, hkd⟩ : ∃ kind, kind = x.kind := ⟨_, rfl⟩
      rw [← hkd] at m0 hk0 hk1 hwh
      have hq1 : -3 ≤ Int.tmod kind 4 := by have := Int.tmod_lt_of_pos (-kind) (show (0 : Int) < 4 by omega); rw [Int.neg_tmod] at this; omega
      have hq2 : Int.tmod kind 4 ≤ 3 := by have := Int.tmod_lt_of_pos kind (show (0 : Int) < 4 by omega); omega
      obtain ⟨q, hq⟩ : ∃ q, q = Int.tmod kind 4 := ⟨_, rfl⟩
      rw [← hq] at hq1 hq2 hwh
      have hqt : Int.tmod kind 4 = q := hq.symm
      have hwh2 : x.which = (q + 4) % 4 := by rw [hwh]; exact Int.tmod_eq_emod_of_nonneg (by omega)
      have hrep : Hid ((List.replicate (k + 1) (1 : Int)).map intV = (List.replicate k (1 : Int)).map intV ++ [.int .i64 1]) := Lib.hid (by rw [List.replicate_succ', List.map_append]; rfl)
      obtain ⟨os, hos⟩ : ∃ os, os = (List.replicate k (1 : Int)).map intV := ⟨_, rfl⟩
      rw [← hos] at hrep hR2
      replace hwh2 := Lib.hid hwh2
      replace hcs := Lib.hid hcs
      replace hW2 := Lib.hid hW2
      replace hcr := Lib.hid hcr
      replace hbox := Lib.hid hbox
      replace hP2 := Lib.hid hP2
      replace hF2 := Lib.hid hF2
      replace hR2 := Lib.hid hR2
      replace htk := Lib.hid htk
      replace hst := Lib.hid hst
      clear hPl hFl hRo hb1 hask hxo hkd hq hwh hos
      have hone1 : Hid (∀ u ∈ [Value.int .i64 1], u.oneCell' = true) := Lib.hid (by simp [Value.oneCell'])
      have i1 : (0 : Int) ≤ (k : Int) := by omega
      have i2 : (k : Int) < (more.length : Int) := by omega
      by_cases h3 : (q + 4) % 4 = 3
      · have dE : ((q + 4) % 4 != 3) = false := by simp [h3]
        have dE2 : (q % 4 != 3) = false := by simp; omega
        have hW3 : Hid (x.which = 3) := Lib.hid (by rw [hwh2.out]; exact h3)
        clear h3
        go_wp2_with (first
          | (refine wpList_load_mid rfl 37 (.tmp 31) rfl b (o + k * 7) rfl cs _ hcr.out Try.underlying37 rfl hsz.out ?_; go_frame)
          | (refine wpList_store_blk rfl 37 (.tmp 9) (.tmp 32) rfl wr.heap.size cs rfl rfl 37 zeroAct (Blk.new_at rfl) hzl.out hsz.out hone.out ?_; rw [show (wr.alloc (.cells #[Value.int .i64 0, .bool false, .string ⟨#[]⟩, .string ⟨#[]⟩, .string ⟨#[]⟩, .int .i64 0, .slice none 0 0] 37)).setRow wr.heap.size cs.toArray = W2 from hW2.out.symm]; go_frame)
          | (refine wpList_load_blk rfl 37 (.tmp 9) rfl wr.heap.size rfl 37 cs hbox.out _ Try.underlying37 rfl hsz.out ?_; go_frame)
          | (at_builtin; refine wpList_append_rd _ rfl (.tmp 42) (.tmp 43) 23 rfl w4.heap.size 3 (.int .i64 0) 1 8 Try.underlying23 intInfo (.slice RA k rc) k os rfl (hR2.out.alloc _) (fun _ => True) (some ⟨W2.heap.size, 0, none⟩) 1 1 [.int .i64 1] rfl rfl (Rd.of_blk (cs := [.int .i64 1]) (r := []) (Blk.new_at rfl) rfl trivial) hone1.out (by unfold maxLen; omega) (by omega) (by simp; omega) ?_; intro v' w9 hrow9 hg9 hv9; replace hrow9 := Lib.hid hrow9; replace hg9 := Lib.hid hg9; go_frame))
        have hb9 : Below W2.heap.size W2 (W2.alloc (.cells #[.int .i64 1] 3)) := (Below.refl _ _).alloc (Nat.le_refl _) _
        obtain ⟨kf, kp⟩ := grown_ints (KeepI.below hb9 _ _ _ _ hR2.out) hg9.out
        have hsz9 := hg9.out.size
        go_roundw
        case rel =>
          refine ⟨k + 1, by omega, by go_num, ?_, kf _ _ _ (hF2.out.below hb9), ?_, ?_⟩
          · rw [htk.out, hst.out, if_pos hW3.out]
            exact kp _ _ _ (hP2.out.below hb9) hw4
          · rw [hrep.out]; exact hrow9.out
          · simp at hsz9; omega
        case measure => simp [intOf]; omega
      · have dE : ((q + 4) % 4 != 3) = true := by simp; omega
        have dE2 : (q % 4 != 3) = true := by simp; omega
        have hW3 : Hid (¬ x.which = 3) := Lib.hid (by rw [hwh2.out]; exact h3)
        clear h3
        go_wp2_with (first
          | (refine wpList_load_mid rfl 37 (.tmp 31) rfl b (o + k * 7) rfl cs _ hcr.out Try.underlying37 rfl hsz.out ?_; go_frame)
          | (refine wpList_store_blk rfl 37 (.tmp 9) (.tmp 32) rfl wr.heap.size cs rfl rfl 37 zeroAct (Blk.new_at rfl) hzl.out hsz.out hone.out ?_; rw [show (wr.alloc (.cells #[Value.int .i64 0, .bool false, .string ⟨#[]⟩, .string ⟨#[]⟩, .string ⟨#[]⟩, .int .i64 0, .slice none 0 0] 37)).setRow wr.heap.size cs.toArray = W2 from hW2.out.symm]; go_frame)
          | (refine wpList_load_blk rfl 37 (.tmp 9) rfl wr.heap.size rfl 37 cs hbox.out _ Try.underlying37 rfl hsz.out ?_; go_frame))
        refine (hcall.out _ hP2.out).mono ?_
        rintro e w8 ⟨rfl, h8, k8, q8, s8⟩
        have hF8 := Lib.hid (k8 _ _ _ hF2.out)
        have hR8 := Lib.hid (q8 _ _ _ _ hR2.out)
        have hs8 : w4.heap.size ≤ w8.heap.size := Nat.le_trans hS2 s8
        replace h8 := Lib.hid h8
        clear k8 q8 s8
        go_wp2_with (at_builtin; refine wpList_append_rd _ rfl (.tmp 42) (.tmp 43) 23 rfl w4.heap.size 3 (.int .i64 0) 1 8 Try.underlying23 intInfo (.slice RA k rc) k os rfl (hR8.out.alloc _) (fun _ => True) (some ⟨w8.heap.size, 0, none⟩) 1 1 [.int .i64 1] rfl rfl (Rd.of_blk (cs := [.int .i64 1]) (r := []) (Blk.new_at rfl) rfl trivial) hone1.out (by unfold maxLen; omega) (by omega) (by simp; omega) ?_; intro v' w9 hrow9 hg9 hv9; replace hrow9 := Lib.hid hrow9; replace hg9 := Lib.hid hg9; go_frame)
        have hb9 : Below w8.heap.size w8 (w8.alloc (.cells #[.int .i64 1] 3)) := (Below.refl _ _).alloc (Nat.le_refl _) _
        obtain ⟨kf, kp⟩ := grown_ints (KeepI.below hb9 _ _ _ _ hR8.out) hg9.out
        have hsz9 := hg9.out.size
        go_roundw
        case rel =>
          refine ⟨k + 1, by omega, by go_num, ?_, kf _ _ _ (hF8.out.below hb9), ?_, ?_⟩
          · rw [htk.out, hst.out, if_neg hW3.out]
            exact kp _ _ _ (h8.out.below hb9) hw4
          · rw [hrep.out]; exact hrow9.out
          · simp at hsz9; omega
        case measure => simp [intOf]; omega
    · have hke : k = more.length := by omega
      subst hke
      rw [List.take_length] at hPl
      have hinv : Inv (runsN S1 more) (0 + more.length) := Inv.runsN _ hI1.out
      obtain ⟨ho2, hf2⟩ := runsN_live more ho1.out hf1.out
      have hsu := runsN_sure more S1
      rw [hu1.out] at hsu
      obtain ⟨S2, hS2⟩ : ∃ S2, S2 = runsN S1 more := ⟨_, rfl⟩
      rw [← hS2] at hPl hinv ho2 hf2 hsu
      have hones : (S2.crash (List.replicate more.length 1)).now = S2.now := by
        show crashTo S2.pend (List.replicate more.length 1) S2.sure = S2.now
        rw [crashTo_ones _ _ _ (by have := hinv.len; omega), hinv.re]
      have hnone : (S2.crash []).now = S.now := by rw [crash_all_now, hsu]
      have hq : fLen S2.sure + S2.pend.length < 8796093022208 := by have := hinv.few'; have := hinv.len; omega
      clear hS2
      replace hPl := Lib.hid hPl
      replace hFl := Lib.hid hFl
      replace hRo := Lib.hid hRo
      replace hinv := Lib.hid hinv
      replace ho2 := Lib.hid ho2
      replace hones := Lib.hid hones
      replace hnone := Lib.hid hnone
      replace hq := Lib.hid hq
      clear hf2 hsu hSz
      go_wp2_with fail
      refine (pr_files hPl.out ho2.out (by have := hinv.out.few; omega) hinv.out.keys).mono ?_
      rintro e w5 ⟨v5, rfl, hf5, hb5⟩
      obtain ⟨A5, c5, rfl⟩ := files_form hf5
      have h5 := Lib.hid (hPl.out.below hb5)
      have hF5 := Lib.hid (hFl.out.below hb5)
      have hR5 := Lib.hid (KeepI.below hb5 _ _ _ _ hRo.out)
      replace hf5 := Lib.hid hf5
      clear hb5
      go_wp2_with fail
      obtain ⟨L, ⟨bn, bs, dv, hd5, rfl⟩, hL5, hB5⟩ := h5.out
      refine (dcopy_any g bn bs dv S2 w5 hd5 (by have := hinv.out.len; omega)).mono ?_
      rintro e w6 ⟨gc, Lc, rfl, hdc, hLc, hb6⟩
      have h6 := Lib.hid (Two.mk h5.out hb6 hdc hLc)
      have hF6 := Lib.hid (hF5.out.below hb6)
      have hf6 := Lib.hid (hf5.out.below hb6)
      have hR6 := Lib.hid (KeepI.below hb6 _ _ _ _ hR5.out)
      clear hb6 hdc hLc hd5 hL5 hB5
      go_wp2_with fail
      refine (tw_crash [] none 0 h6.out hinv.out.toFit hq.out (fun _ _ _ => nums_nil) (by simp) (by simp)).mono ?_
      rintro e w7 ⟨rfl, h7, k7, q7⟩
      have hF7 := Lib.hid (k7 _ _ _ hF6.out)
      have hf7 := Lib.hid (k7 _ _ _ hf6.out)
      have hR7 := Lib.hid (q7 _ _ _ _ hR6.out)
      replace h7 := Lib.hid h7.swap
      clear k7 q7
      go_wp2_with fail
      have hcc := tw_crash (List.replicate more.length 1) RA rc h7.out hinv.out.toFit hq.out (fun L _ hd => nums_row hR7.out hd) (fun x hx => by rw [(List.mem_replicate.1 hx).2]; omega) (by rw [List.length_replicate]; omega)
      rw [List.length_replicate] at hcc
      refine hcc.mono ?_
      rintro e w8 ⟨rfl, h8, k8, _⟩
      have hF8 := Lib.hid (k8 _ _ _ hF7.out)
      have hf8 := Lib.hid (k8 _ _ _ hf7.out)
      replace h8 := Lib.hid h8
      clear k8 hcc
      go_wp2_with fail
      refine (pr_files h8.out.right rfl (by rw [hnone.out]; have := hI.out.few; omega) (by rw [hnone.out]; exact hI.out.keys)).mono ?_
      rintro e w9 ⟨v9, rfl, hf9, hb9⟩
      rw [hnone.out, ← hfl.out] at hf9
      obtain ⟨A9, c9, rfl⟩ := files_form hf9
      have h9 := Lib.hid (h8.out.below hb9)
      have hF9 := Lib.hid (hF8.out.below hb9)
      have hf9' := Lib.hid (hf8.out.below hb9)
      replace hf9 := Lib.hid hf9
      clear hb9
      go_wp2_with fail
      refine (same_any fl A9 A4 c9 c4 _ _ w9 hf9.out hF9.out (by rw [hfl.out]; exact files_small hI.out)).mono ?_
      rintro e w10 ⟨rfl, hb10⟩
      have h10 := Lib.hid (h9.out.below hb10)
      have hf10 := Lib.hid (hf9'.out.below hb10)
      clear hb10
      go_wp2_with fail
      refine (pr_files h10.out.left rfl (by rw [hones.out]; have := hinv.out.few; omega) (by rw [hones.out]; exact hinv.out.keys)).mono ?_
      rintro e w11 ⟨v11, rfl, hf11, hb11⟩
      rw [hones.out] at hf11
      obtain ⟨A11, c11, rfl⟩ := files_form hf11
      have h11 := Lib.hid (h10.out.below hb11)
      have hf11' := Lib.hid (hf10.out.below hb11)
      replace hf11 := Lib.hid hf11
      clear hb11
      go_wp2_with fail
      refine (same_any (fFiles S2.now) A11 A5 c11 c5 _ _ w11 hf11.out hf11'.out (files_small hinv.out)).mono ?_
      rintro e w12 ⟨rfl, hb12⟩
      have h12 := Lib.hid (h11.out.below hb12)
      clear hb12
      go_wp2
      go_ret
      exact ⟨rfl, h12.out.base⟩
end Go.Proofs.Ytbfniokghocfiaa
