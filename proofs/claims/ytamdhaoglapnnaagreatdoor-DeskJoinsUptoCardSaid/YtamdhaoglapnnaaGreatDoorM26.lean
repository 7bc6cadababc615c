/- The walk of Hash.Sum. -/
import Derived.Test.YtamdhaoglapnnaaGreatDoorM25
import Derived.Test.YtamdhaoglapnnaaGreatDoorM01
import Derived.Deep.WholeRow
namespace Go.Proofs.YtamdhaoglapnnaaGreatDoor
open Go.RowKit

/-- How many bytes 0 come behind the byte 128. -/
def padZ (n : Nat) : Nat := (64 - (n + 9) % 64) % 64
def lenByte (n i : Nat) : UInt8 := UInt8.ofNat (n * 8 / 2 ^ (56 - 8 * i))
def padTo (n j : Nat) : List UInt8 := (128 :: List.replicate (padZ n) 0) ++ (List.range j).map (lenByte n)
/-- What comes behind n bytes. -/
def padEnd (n : Nat) : List UInt8 := padTo n 8

def hash0 : List Value := hashCells false ⟨0, 0, 0, 0, 0, 0, 0, 0⟩ (List.replicate 64 0) 0
theorem zerosH : (Tryz.prog.info? 304).map (fun i => (i.zero, i.size)) = some (some (.agg hash0.toArray), 74) := by kernel_rfl
def zero128 : List Value := List.replicate 128 (B 0)
theorem make128 (w : World) : (Instr.makeSlice 49 (.int .i64 1) (.int .i64 128)).run Tryz.prog w = .ok (.slice (some ⟨w.heap.size, 0, none⟩) 1 128) (w.alloc (.cells zero128.toArray 5)) := by kernel_rfl
theorem zero128_0 : zero128[0]? = some (B 0) := rfl
theorem all_hash (made : Bool) (s : St) (rest : List UInt8) (n : Nat) : ∀ v ∈ hashCells made s rest n, v.oneCell' = true := by
  intro v hv
  simp only [hashCells, List.mem_cons, List.mem_append] at hv
  rcases hv with rfl | hv | hv | hv | hv
  · rfl
  · exact all_W _ v hv
  · exact all_B _ v hv
  · rw [hv]; rfl
  · cases hv


def HS (w : World) (cs : List Value) (v : Value) (xs : List UInt8) (wr : World) : Prop :=
  Blk wr w.heap.size 115 zero32 ∧ Blk wr (w.heap.size + 1) 115 zero32 ∧ Blk wr (w.heap.size + 1 + 1) 304 cs ∧
  wr.ownsRow (w.heap.size + 3) 5 1 v xs.length (xs.map B) ∧ Below w.heap.size w wr ∧ w.heap.size + 3 ≤ wr.heap.size
theorem heap_at {w : World} {g : Nat} {o : Obj} (h : g = w.heap.size) : (w.alloc o).heap[g]? = some o := by subst h; exact heap_alloc_new w _
theorem hs_start (w : World) (cs : List Value) : HS w cs (.slice (some ⟨w.heap.size + 1 + 1 + 1, 0, none⟩) 1 128) [128]
    (((((w.alloc (.cells zero32.toArray 115)).alloc (.cells zero32.toArray 115)).alloc (.cells hash0.toArray 304)).setRow (w.heap.size + 1 + 1) cs.toArray).alloc (.cells (zero128.set 0 (.int .u8 128)).toArray 5)) := by
  have h0 : Blk ((w.alloc (.cells zero32.toArray 115)).alloc (.cells zero32.toArray 115)) w.heap.size 115 zero32 := (Blk.new_at rfl).alloc _
  have h1 : Blk ((w.alloc (.cells zero32.toArray 115)).alloc (.cells zero32.toArray 115)) (w.heap.size + 1) 115 zero32 := Blk.new_at (by simp)
  have hb : Below w.heap.size w ((w.alloc (.cells zero32.toArray 115)).alloc (.cells zero32.toArray 115)) := ((Below.refl _ _).alloc (Nat.le_refl _) _).alloc (by simp) _
  have hs : ((w.alloc (.cells zero32.toArray 115)).alloc (.cells zero32.toArray 115)).heap.size = w.heap.size + 1 + 1 := by simp
  generalize (w.alloc (.cells zero32.toArray 115)).alloc (.cells zero32.toArray 115) = W at *
  have h2 : Blk (W.alloc (.cells hash0.toArray 304)) (w.heap.size + 1 + 1) 304 hash0 := Blk.new_at hs.symm
  refine ⟨((h0.alloc _).setRow_far (by omega) _).alloc _, ((h1.alloc _).setRow_far (by omega) _).alloc _, (h2.setRow_same cs).alloc _, ⟨rfl, .inr ⟨w.heap.size + 3, 128, (zero128.set 0 (.int .u8 128)).toArray, rfl, Nat.le_refl _, ?_, by decide, by decide, rfl, rfl⟩⟩, ?_, by simp [hs]⟩
  · exact heap_at (by simp [hs])
  · exact (below_setRow (hb.alloc (by omega) _) (by omega) _).alloc (by simp [hs]; omega) _
theorem hs_step {w wr w' : World} {cs : List Value} {v v' : Value} {xs : List UInt8} {x : UInt8} {o : Obj} (h : HS w cs v xs wr) (hown : w'.ownsRow (w.heap.size + 3) 5 1 v' (xs.length + 1) (xs.map B ++ [B x])) (hg : (wr.alloc o).grownBy w' v.ownBlock) : HS w cs v' (xs ++ [x]) w' := by
  obtain ⟨h1, h2, h3, h4, h5, h6⟩ := h
  have hb : Below (w.heap.size + 3) (wr.alloc o) w' := own_below (h4.alloc o) hg (by simp; omega)
  refine ⟨(h1.alloc o).below hb (by omega), (h2.alloc o).below hb (by omega), (h3.alloc o).below hb (by omega), ?_, (h5.alloc (by omega) o).trans (hb.mono (by omega)), ?_⟩
  · rw [List.map_append, List.length_append]; exact hown
  · have := hg.size
    simp at this; omega

/-- A word's bytes, the highest first. -/
def wBytes (x : UInt32) : List UInt8 := [w2b (shr x 24), w2b (shr x 16), w2b (shr x 8), w2b x]
/-- The state's 32 bytes. -/
def stBytes (s : St) : List UInt8 := s.list.flatMap wBytes
/-- The digest of some bytes. -/
def shaOf (msg : List UInt8) : List UInt8 := stBytes (blocksS (msg ++ padEnd msg.length) ((msg ++ padEnd msg.length).length / 64))
def dk (s : St) (k : Nat) : List UInt8 := (stBytes s).take (4 * k) ++ List.replicate (32 - 4 * k) 0
theorem dk_step (s : St) (k : Nat) (hk : k < 8) : (((((dk s k).map B).set (4 * k) (B (w2b (shr (s.list.getD k 0) 24)))).set (4 * k + 1) (B (w2b (shr (s.list.getD k 0) 16)))).set (4 * k + 2) (B (w2b (shr (s.list.getD k 0) 8)))).set (4 * k + 3) (B (w2b (s.list.getD k 0))) = (dk s (k + 1)).map B := by
  match k, hk with
  | 0, _ => rfl
  | 1, _ => rfl
  | 2, _ => rfl
  | 3, _ => rfl
  | 4, _ => rfl
  | 5, _ => rfl
  | 6, _ => rfl
  | 7, _ => rfl
theorem dk_length (s : St) (k : Nat) (hk : k ≤ 8) : (dk s k).length = 32 := by
  have : (stBytes s).length = 32 := rfl
  simp [dk, this]; omega
theorem stBytes_length (s : St) : (stBytes s).length = 32 := rfl
theorem dk_8 (s : St) : dk s 8 = stBytes s := rfl
theorem lenByte_eq (n k : Nat) : ((n : Int) * 8 / 2 ^ (56 - 8 * k)) % 256 = bv (lenByte n k) := by
  unfold bv lenByte
  simp
theorem padTo_succ (n k : Nat) : padTo n (k + 1) = padTo n k ++ [lenByte n k] := by
  simp [padTo, List.range_succ]
theorem padTo_length (n k : Nat) : (padTo n k).length = padZ n + 1 + k := by simp [padTo]; omega
theorem keys_below {w w' : World} (hK : KeysIn w) (h : Below w.heap.size w w') : KeysIn w' := fun i hi => by
  have := hK i hi
  rw [h.cell (p := ⟨_, _, none⟩) (World.block_lt_of_cell? _ _ this)]; exact this

theorem index_state (st : St) (k : Nat) (hk : k < 8) (w : World) : (Instr.index 300 (.agg st.cells.toArray) (.int .i64 (k : Int))).run Tryz.prog w = .ok (W (st.list.getD k 0)) w := by
  obtain rfl | rfl | rfl | rfl | rfl | rfl | rfl | rfl : k = 0 ∨ k = 1 ∨ k = 2 ∨ k = 3 ∨ k = 4 ∨ k = 5 ∨ k = 6 ∨ k = 7 := by omega
  all_goals kernel_rfl
def HD (w : World) (st : St) (k : Nat) (wr : World) : Prop :=
  Blk wr w.heap.size 115 zero32 ∧ Blk wr (w.heap.size + 1) 115 ((dk st k).map B) ∧ Below w.heap.size w wr
theorem hd_cell {w wr : World} {st : St} {k : Nat} (h : HD w st k wr) (hk : k < 8) (i : Nat) (hi : i < 32) : ∃ v, wr.cell? ⟨w.heap.size + 1, i, none⟩ = some v := by
  rw [h.2.1.cell]
  have hl : i < ((dk st k).map B).length := by rw [List.length_map, dk_length _ _ (by omega)]; exact hi
  exact ⟨_, List.getElem?_eq_getElem hl⟩
theorem hd_step {w wr : World} {st : St} {k : Nat} (h : HD w st k wr) (hk : k < 8) :
    HD w st (k + 1) ((((wr.setCell ⟨w.heap.size + 1, 4 * k, none⟩ (B (w2b (shr (st.list.getD k 0) 24)))).setCell ⟨w.heap.size + 1, 4 * k + 1, none⟩ (B (w2b (shr (st.list.getD k 0) 16)))).setCell
      ⟨w.heap.size + 1, 4 * k + 2, none⟩ (B (w2b (shr (st.list.getD k 0) 8)))).setCell ⟨w.heap.size + 1, 4 * k + 3, none⟩ (B (w2b (st.list.getD k 0)))) := by
  obtain ⟨h1, h2, h3⟩ := h
  have h2' := (((h2.set_ (4 * k) (B (w2b (shr (st.list.getD k 0) 24)))).set_ (4 * k + 1) (B (w2b (shr (st.list.getD k 0) 16)))).set_ (4 * k + 2) (B (w2b (shr (st.list.getD k 0) 8)))).set_ (4 * k + 3) (B (w2b (st.list.getD k 0)))
  rw [dk_step st k hk] at h2'
  exact ⟨(((h1.far (by simp) _).far (by simp) _).far (by simp) _).far (by simp) _, h2', (((h3.setCell (by simp) _).setCell (by simp) _).setCell (by simp) _).setCell (by simp) _⟩
attribute [local go_sem] shr_24 shr_16 shr_8 w2b_mod lenByte_eq
set_option maxRecDepth 100000 in
set_option maxHeartbeats 4000000 in
theorem hsum_any (g : Nat) (msg : List UInt8) (w : World) (hH : HashIs w g msg) (hn : msg.length ≤ 281474976710656) (hK : KeysIn w) :
    Calls Tryz.prog 154 #[.pointer (some ⟨g, 0, none⟩)] w fun e w' =>
      e = .returned (.agg ((shaOf msg).map B).toArray) ∧ Below w.heap.size w w' := by
  obtain ⟨rest, hr, ht, hB⟩ := hH
  have hc0 : w.cell? ⟨g, 0, none⟩ = some (.bool true) := by rw [hB.cell]; rfl
  have hlt := hB.lt
  have hz := (zero_of_info zeros32).1
  have hzH := (zero_of_info zerosH).1
  obtain ⟨cs, hcs⟩ : ∃ cs, cs = hashCells true (blocksS msg (msg.length / 64)) rest msg.length := ⟨_, rfl⟩
  have hcl : cs.length = 74 := by rw [hcs]; exact hashCells_len _ _ _ _ hr
  have hc1 : ∀ v ∈ cs, v.oneCell' = true := by rw [hcs]; exact all_hash _ _ _ _
  have h73 : w.cell? ⟨g, 73, none⟩ = some (.int .i64 (msg.length : Int)) := by rw [hB.cell]; exact hashCells_73 _ _ _ _ hr
  rw [← hcs] at hB
  have hsz : (Tryz.prog.info? 304).map (·.size) = some cs.length := by rw [hcl]; kernel_rfl
  replace hcs := Lib.hid hcs
  replace hr := Lib.hid hr
  replace ht := Lib.hid ht
  replace hsz := Lib.hid hsz
  replace hcl := Lib.hid hcl
  replace hc1 := Lib.hid hc1
  replace h73 := Lib.hid h73
  have hmk := make128
  have hz0 := zero128_0
  go_enter Tryz.func154, Tryz.ntmps154
  go_wp2_with (first
    | (refine wpList_load_blk rfl 304 (.tmp 20) rfl g rfl 304 cs ((hB.alloc _).alloc _) _ Tryz.underlying304 rfl hsz.out ?_)
    | (refine wpList_store_blk rfl 304 (.tmp 4) (.tmp 21) rfl (w.heap.size + 1 + 1) cs rfl rfl 304 hash0 (Blk.new_at (by simp)) (by rw [hcl.out]; rfl) hsz.out hc1.out ?_))
  have hS := hs_start w cs
  clear hz hzH hmk hz0 hc0
  generalize World.alloc (World.setRow _ _ _) _ = w0 at hS ⊢
  go_loopw [5] (fun v wr => ∃ j, j ≤ padZ msg.length ∧ HS w cs v (128 :: List.replicate j 0) wr) (fun v _ => 200 - lenOf v)
  case atStart => exact ⟨0, Nat.zero_le _, hS⟩
  case round =>
    obtain ⟨j, hj, hS⟩ := hrel
    obtain ⟨xs, hxs⟩ : ∃ xs, xs = (128 : UInt8) :: List.replicate j 0 := ⟨_, rfl⟩
    have hxl : xs.length = j + 1 := by rw [hxs]; simp
    rw [← hxs] at hS
    obtain ⟨A, cap, rfl, hcap, hcap2⟩ := own_form hS.2.2.2.1
    have hpz : padZ msg.length < 64 := by unfold padZ; omega
    have hxb : xs.length ≤ 64 := by omega
    have hc73 : wr.cell? ⟨g, 73, none⟩ = some (.int .i64 (msg.length : Int)) := by rw [hS.2.2.2.2.1.cell (p := ⟨g, 73, none⟩) hlt]; exact h73.out
    by_cases hlt2 : j < padZ msg.length
    · have htb : (((msg.length : Int) + (xs.length : Int) + 8) % 64 != 0) = true := by
        rw [bne_iff_ne]; unfold padZ at hlt2; omega
      replace hxl := Lib.hid hxl
      replace hxs := Lib.hid hxs
      go_wp2_with (at_builtin; refine wpList_append_rd _ rfl (.tmp 35) (.tmp 36) 49 rfl (w.heap.size + 3) 5 (B 0) 1 1 Tryz.underlying49 info8 (.slice A xs.length cap) xs.length (xs.map B) rfl (hS.2.2.2.1.alloc _) (· = wr.heap.size) (some ⟨wr.heap.size, 0, none⟩) 1 1 [B 0] rfl rfl (Rd.of_blk (Blk.new_at rfl) rfl rfl) (by simp [Value.oneCell']) (by unfold maxLen; omega) (by omega) (by have := hS.2.2.2.2.2; simp; omega) ?_; intro v' w' hown' hg' _)
      go_roundw
      case rel =>
        refine ⟨j + 1, hlt2, ?_⟩
        have := hs_step hS hown' hg'
        rw [hxs.out] at this
        rw [List.replicate_succ']
        exact this
      case measure =>
        obtain ⟨A', cap', rfl, _, _⟩ := own_form hown'
        simp [lenOf]; omega
    · have htb : (((msg.length : Int) + (xs.length : Int) + 8) % 64 != 0) = false := by
        rw [bne_eq_false_iff_eq]; unfold padZ at hlt2 hj; omega
      have hxp : xs = padTo msg.length 0 := by
        obtain rfl : j = padZ msg.length := by omega
        rw [hxs]; simp [padTo]
      rw [hxp] at hS
      obtain ⟨w1, rfl⟩ : ∃ w1 : World, w1 = wr := ⟨_, rfl⟩
      replace hxl := Lib.hid hxl
      replace hxs := Lib.hid hxs
      replace hxp := Lib.hid hxp
      go_wp2
      clear hc73
      go_loopw [38, 5] (fun i v wr => ∃ k : Nat, k ≤ 8 ∧ i = .int .i64 (k : Int) ∧ HS w cs v (padTo msg.length k) wr) (fun i _ _ => 8 - (intOf i).toNat)
      case atStart =>
        refine ⟨0, by omega, rfl, ?_⟩
        rw [hxp.out]; exact hS
      case round =>
        clear hS
        obtain ⟨k, hk, rfl, hS⟩ := hrel
        obtain ⟨ys, hys⟩ : ∃ ys, ys = padTo msg.length k := ⟨_, rfl⟩
        have hyl : ys.length ≤ 72 := by rw [hys, padTo_length]; omega
        rw [← hys] at hS
        obtain ⟨A1, cap1, rfl, hcap3, hcap4⟩ := own_form hS.2.2.2.1
        replace hys := Lib.hid hys
        have hc73 : wr.cell? ⟨g, 73, none⟩ = some (.int .i64 (msg.length : Int)) := by rw [hS.2.2.2.2.1.cell (p := ⟨g, 73, none⟩) hlt]; exact h73.out
        by_cases hlt3 : k < 8
        · go_wp2_with (at_builtin; refine wpList_append_rd _ rfl (.tmp 41) (.tmp 53) 49 rfl (w.heap.size + 3) 5 (B 0) 1 1 Tryz.underlying49 info8 (.slice A1 ys.length cap1) ys.length (ys.map B) rfl (hS.2.2.2.1.alloc _) (· = wr.heap.size) (some ⟨wr.heap.size, 0, none⟩) 1 1 [B (lenByte msg.length k)] rfl rfl (Rd.of_blk (cs := [B (lenByte msg.length k)]) (r := []) (Blk.new_at rfl) rfl rfl) (by simp [Value.oneCell']) (by unfold maxLen; omega) (by omega) (by have := hS.2.2.2.2.2; simp; omega) ?_; intro v' w' hown' hg' _)
          go_roundw
          case rel =>
            refine ⟨k + 1, by omega, by go_num, ?_⟩
            have := hs_step hS hown' hg'
            rw [hys.out, ← padTo_succ] at this
            exact this
          case measure => simp [intOf]; omega
        · obtain ⟨k8, hk8⟩ : ∃ k8, k8 = k := ⟨_, rfl⟩
          rw [← hk8] at hlt3 hk ⊢
          have hyp : ys = padEnd msg.length := by rw [hys.out, show k = 8 by omega]; rfl
          rw [hyp] at hS
          have hge8 : 8 ≤ k8 := by omega
          obtain ⟨w2, rfl⟩ : ∃ w2 : World, w2 = wr := ⟨_, rfl⟩
          replace hyp := Lib.hid hyp
          clear hk8
          have hHI : HashIs w2 (w.heap.size + 1 + 1) msg := ⟨rest, hr.out, ht.out, by rw [← hcs.out]; exact hS.2.2.1⟩
          have hRd : Rd w2 (· ≠ w.heap.size + 1 + 1) A1 ((padEnd msg.length).map B) := by
            have := own_rd hS.2.2.2.1
            exact this.weak (fun b _ hb => by omega)
          have hK2 : KeysIn w2 := keys_below hK hS.2.2.2.2.1
          have hpl : (padEnd msg.length).length = ys.length := by rw [hyp.out]
          have hwr := write_any (w.heap.size + 1 + 1) msg (padEnd msg.length) A1 cap1 w2 hHI hRd (by rw [hpl]; exact hcap3) (by rw [hpl]; omega) hK2
          rw [hpl] at hwr
          replace hpl := Lib.hid hpl
          replace hwr := Lib.hid hwr
          clear hc73
          obtain ⟨st3, hst3⟩ : ∃ s, s = blocksS (msg ++ padEnd msg.length) ((msg ++ padEnd msg.length).length / 64) := ⟨_, rfl⟩
          replace hst3 := Lib.hid hst3
          have hcell45 : ∀ (st : St) (k : Nat), k < 8 → ∀ w, (Instr.index 300 (.agg st.cells.toArray) (.int .i64 (k : Int))).run Tryz.prog w = .ok (W (st.list.getD k 0)) w := index_state
          replace hcell45 := Lib.hid hcell45
          go_wp2_with (first
            | (go_at_call 153
               refine hwr.out.mono ?_
               rintro e w3 ⟨rfl, ⟨rest3, hr3, ht3, hB3⟩, hG3⟩
               rw [← hst3.out] at hB3
               generalize (msg ++ padEnd msg.length).length = n3 at hB3 ht3
               replace hr3 := Lib.hid hr3
               clear ht3)
            | (refine wpList_load_part rfl 300 (.tmp 58) rfl (w.heap.size + 1 + 1) 1 rfl 304 (hashCells true st3 rest3 n3) st3.cells (rest3.map B ++ [.int .i64 (n3 : Int)]) hB3 rfl _ Tryz.underlying300 rfl (by kernel_rfl) ?_))
          have hM : HD w st3 0 w3 := ⟨(hS.1).grown hG3 (by simp; omega), (hS.2.1).grown hG3 (by simp), hS.2.2.2.2.1.trans (below_of_grown hG3 (by have := hS.2.2.2.2.2; omega) (by omega))⟩
          clear hS hHI hRd hK2 hG3 hB3
          go_loopw [60] (fun i wr => ∃ k : Nat, k ≤ 8 ∧ i = .int .i64 (k : Int) ∧ HD w st3 k wr) (fun i _ => 8 - (intOf i).toNat)
          case atStart => exact ⟨0, by omega, rfl, hM⟩
          case round =>
            clear hM
            obtain ⟨k, hk9, rfl, hM⟩ := hrel
            by_cases hlt4 : k < 8
            · have hidx := hcell45.out st3 k hlt4
              obtain ⟨d0, hd0⟩ := hd_cell hM hlt4 (4 * k) (by omega)
              obtain ⟨d1, hd1⟩ := hd_cell hM hlt4 (4 * k + 1) (by omega)
              obtain ⟨d2, hd2⟩ := hd_cell hM hlt4 (4 * k + 2) (by omega)
              obtain ⟨d3, hd3⟩ := hd_cell hM hlt4 (4 * k + 3) (by omega)
              have hf0 := hM.2.1.frozen (4 * k)
              have hf1 := hM.2.1.frozen (4 * k + 1)
              have hf2 := hM.2.1.frozen (4 * k + 2)
              have hf3 := hM.2.1.frozen (4 * k + 3)
              go_wp2
              go_roundw
              case rel => exact ⟨k + 1, by omega, by go_num, hd_step hM hlt4⟩
              case measure => simp [intOf]; omega
            · obtain rfl : k = 8 := by omega
              have hM2 := hM.2.1
              rw [dk_8] at hM2
              go_wp2_with (first
                | (refine wpList_load_blk rfl 115 (.tmp 3) rfl (w.heap.size + 1) rfl 115 ((stBytes st3).map B) hM2 _ Tryz.underlying115 rfl (by kernel_rfl) ?_)
                | (refine wpList_store_blk rfl 115 (.tmp 2) (.tmp 91) rfl w.heap.size ((stBytes st3).map B) rfl rfl 115 zero32 hM.1 rfl (by kernel_rfl) (all_B _) ?_))
              refine ret_blk Tryz.results154 w.heap.size 115 ((stBytes st3).map B) _ rfl (hM.1.setRow_same _) Tryz.underlying115 rfl (by kernel_rfl) rfl ?_
              exact ⟨by rw [hst3.out]; rfl, below_setRow hM.2.2 (Nat.le_refl _) _⟩
end Go.Proofs.YtamdhaoglapnnaaGreatDoor
