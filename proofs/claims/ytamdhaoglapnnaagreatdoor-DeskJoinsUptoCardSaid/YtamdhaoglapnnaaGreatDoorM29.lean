/- The tree of a text: the operations that write it may be. -/
import Derived.Test.YtamdhaoglapnnaaGreatDoorM28
namespace Go.Proofs.YtamdhaoglapnnaaGreatDoor
open Go.RowKit

theorem chain_get {t : Str} {m : Nat} (h : m < t.length) : ∃ h' : m < (chain t).length, (chain t)[m] = insOp m t[m] := by
  have hcl : (chain t).length = t.length := chain_len t 0
  refine ⟨by omega, ?_⟩
  have h1 := chain_at t 0 m h
  rw [Nat.zero_add] at h1
  exact Option.some.inj ((List.getElem?_eq_getElem (by rw [hcl]; exact h)).symm.trans h1)
/-- One operation of the chain, where it lies. -/
theorem chain_op {w : World} {ok : Nat → Prop} {A : Option Addr} {c : Nat} {t : Str} (h : OpsIs w ok (.slice A t.length c) (chain t)) (ht : t.length ≤ 2000) {m : Nat} (hm : m < t.length) :
    ∃ b o, A = some ⟨b, o, none⟩ ∧ b < w.heap.size ∧ ∀ j v, (opCells (insOp m t[m]))[j]? = some v → w.cell? ⟨b, o + m * 37 + j, none⟩ = some v := by
  have hcl : (chain t).length = t.length := chain_len t 0
  obtain ⟨hmc, hat⟩ := chain_get hm
  rw [← hcl] at h
  obtain ⟨b, o, hA, _, hbl, hcells⟩ := h.op (chain_osfit (by omega)).ok m hmc
  rw [hat] at hcells
  exact ⟨b, o, hA, hbl, hcells⟩
set_option maxRecDepth 100000 in
set_option maxHeartbeats 8000000 in
theorem wrong_chain (t : Str) (ht : t.length ≤ 1000) (tb nb mb ab : Nat) (seen : Int) (es us : List (Value × Value)) (id : Str) (hid : id.length = 32) (o : Value) (ok : Nat → Prop) (w : World)
    (hT : Blk w tb 357 (treeCells nb mb ab seen)) (hM : MapV w mb es) (hA : MapV w ab us) (hk : ∀ q ∈ us, digK q.1) (hn : ∀ q ∈ us, q.1 ≠ .agg (id.map B).toArray) (hes : es.length + t.length ≤ 400000) (h : OpsIs w ok o (chain t)) :
    Calls Tryz.prog 263 #[.pointer (some ⟨tb, 0, none⟩), .agg (id.map B).toArray, o] w fun e w' => e = .returned (.int .i64 0) ∧ Below w.heap.size w w' := by
  have hcl : (chain t).length = t.length := chain_len t 0
  obtain ⟨OA, oc, rfl, hoc, hor⟩ := h
  have hO : Hid (OpsIs w ok (.slice OA (chain t).length oc) (chain t)) := Lib.hid ⟨OA, oc, rfl, hoc, hor⟩
  rw [hcl] at hO ⊢
  clear hor hoc
  generalize hW1 : (w.alloc (.cells (id.map B).toArray 115)) = w1
  have hb1 : Below w.heap.size w w1 := by rw [← hW1]; exact (Below.refl _ _).alloc (Nat.le_refl _) _
  have hI : Blk w1 w.heap.size 115 (id.map B) := by rw [← hW1]; exact Blk.new_at (cs := id.map B) rfl
  have hT1 := hT.below hb1 hT.lt
  have hM1 := hM.below hb1 hM.lt
  have hA1 := hA.below hb1 hA.lt
  have c2 : w1.cell? ⟨tb, 2, none⟩ = some (.map (some ab)) := hT1.cell 2
  have hrun : Hid (∀ w', (∃ n, w' = w1.drewN n) → (Instr.lookup 99 (.map (some ab)) (.agg (id.map B).toArray) true).run Tryz.prog w' = .ok (.tuple #[.int .i64 0, .bool false]) w') := Lib.hid (by
    rintro _ ⟨n, rfl⟩
    have hA2 : MapV (w1.drewN n) ab us := hA1.block rfl
    exact hA2.look_none digKeys Tryz.underlying99 (by kernel_rfl) hk ⟨id, hid, rfl⟩ hn true)
  have hI3 : Hid (∀ w', (∃ n, w' = w1.drewN n) → Blk w' w.heap.size 115 (id.map B)) := Lib.hid (by rintro _ ⟨n, rfl⟩; exact hI.drewN n)
  have hTb := Lib.hid (fun W (hb : Below w1.heap.size w1 W) => (show W.cell? ⟨tb, 1, none⟩ = some (.map (some mb)) ∧ MapV W mb es from ⟨(hT1.below hb hT1.lt).cell 1, hM1.below hb hM1.lt⟩))
  have hb1' := Lib.hid hb1
  clear hT hM hA hT1 hM1 hA1 hk hn hI hb1
  go_enter Tryz.func263, Tryz.ntmps263
  go_wp2_with fail
  refine wp_region_quiet_lit (by kernel_rfl) (by kernel_rfl) ?_
  repeat (first
    | go_big_quiet_step (fail)
    | (refine wpQuiet_load_part 115 (.tmp 4) rfl rfl w.heap.size 0 rfl 115 (id.map B) (id.map B) [] hI3.out (by simp) _ Tryz.underlying115 rfl (digSz hid) ?_; go_frame)
    | (refine wpQuiet_run (.lookup 99 (.tmp 19) (.tmp 20) true) rfl rfl (.tuple #[.int .i64 0, .bool false]) (fun w' hw' => exec_lookup 99 (.tmp 19) (.tmp 20) true rfl _ _ _ rfl rfl (hrun.out w' hw')) ?_; go_frame))
  refine wpQuiet_nil ?_
  rintro _ ⟨nq, rfl⟩
  have hb2 := Lib.hid (hb1'.out.trans ((Touch.drewN (w := w1) (L := []) nq).below hb1'.out.size (fun _ hi => by cases hi)))
  have hb12 := Lib.hid ((Touch.drewN (w := w1) (L := []) nq).below (Nat.le_refl _) (fun _ hi => by cases hi))
  generalize w1.drewN nq = w2 at hb2 hb12 ⊢
  clear hrun hI3 c2
  go_wp2_with fail
  go_loopw [9, 27] (fun n i wr => ∃ m : Nat, m ≤ t.length ∧ n = .int .i64 m ∧ i = .int .i64 m ∧ Below w2.heap.size w2 wr) (fun _ i _ => t.length - (intOf i).toNat)
  case atStart => exact ⟨0, Nat.zero_le _, rfl, rfl, Below.refl _ _⟩
  case round =>
    obtain ⟨m, hm, rfl, rfl, hbr⟩ := hrel
    by_cases hlt : m < t.length
    · have hOr := hO.out.stayB (hb2.out.trans (hbr.mono hb2.out.size))
      obtain ⟨b, o, rfl, hbl, hcells⟩ := chain_op hOr (by omega) hlt
      obtain ⟨c, hc⟩ : ∃ c, c = t[m] := ⟨_, rfl⟩
      rw [← hc] at hcells
      have hf := insOp_fit (k := m) c (by omega)
      have i1 : (0 : Int) ≤ (m : Int) := by omega
      have i2 : (m : Int) < (t.length : Int) := by omega
      replace hcells := Lib.hid hcells
      replace hc := Lib.hid hc
      replace hbr := Lib.hid hbr
      clear hOr hO hTb
      go_wp2_with (first
        | (refine wpList_load_mid rfl 283 (.tmp 29) rfl b (o + m * 37) rfl (opCells (insOp m c)) _ (fun j v hv => hcells.out j v hv) Tryz.underlying283 rfl (opSz hf) ?_)
        | (refine wpList_store_blk rfl 283 (.tmp 11) (.tmp 30) rfl wr.heap.size (opCells (insOp m c)) rfl rfl 283 zeroOp (Blk.new_at rfl) (by rw [opCells_len hf]; rfl) (opSz hf) (opCells_one _) ?_
           generalize hw1 : World.setRow _ wr.heap.size (opCells (insOp m c)).toArray = w9
           have hB9 : Blk w9 wr.heap.size 283 (opCells (insOp m c)) := by
             rw [← hw1]
             exact (Blk.new_at (w := wr) (t := 283) (cs := zeroOp) rfl).setRow_same (opCells (insOp m c))
           have hb9 : Below wr.heap.size wr w9 := by
             rw [← hw1]
             exact below_setRow ((Below.refl wr.heap.size wr).alloc (Nat.le_refl _) (.cells zeroOp.toArray 283)) (Nat.le_refl _) (opCells (insOp m c)).toArray
           clear hw1
           have q0 : w9.cell? ⟨wr.heap.size, 0, none⟩ = some (.int .i64 1) := hB9.cell 0
           replace hB9 := Lib.hid hB9
           replace hb9 := Lib.hid hb9
           go_frame)
        | fail)
      refine ⟨⟨m + 1, by omega, by go_num, by go_num, hbr.out.trans (hb9.out.mono hbr.out.size)⟩, by simp [intOf]; omega⟩
    · have hmt : m = t.length := by omega
      subst hmt
      replace hbr := Lib.hid hbr
      obtain ⟨c1, hMr⟩ := hTb.out wr (hb12.out.trans (hbr.out.mono hb12.out.size))
      have g1 : decide ((2000 : Int) < (t.length : Int)) = false := decide_eq_false (by omega)
      have hlen := fun ty => hMr.len Tryz.underlying355 ty
      clear hTb hMr
      go_wp2_with fail
      obtain ⟨w3, hw3⟩ : ∃ w3 : World, w3 = wr := ⟨_, rfl⟩
      rw [← hw3] at hbr c1 hlen ⊢
      have hb3 := Lib.hid (hb2.out.trans (hbr.out.mono hb2.out.size))
      clear hbr hw3 hlen c1 hb12
      go_loopw [52] (fun i wr => ∃ m : Nat, m ≤ t.length ∧ i = .int .i64 m ∧ Below w3.heap.size w3 wr) (fun i _ => t.length - (intOf i).toNat)
      case atStart => exact ⟨0, Nat.zero_le _, rfl, Below.refl _ _⟩
      case round =>
        obtain ⟨m, hm, rfl, hbr⟩ := hrel
        by_cases hlt : m < t.length
        · have hOr := hO.out.stayB (hb3.out.trans (hbr.mono hb3.out.size))
          obtain ⟨b, o, rfl, hbl, hcells⟩ := chain_op hOr (by omega) hlt
          obtain ⟨c, hc⟩ : ∃ c, c = t[m] := ⟨_, rfl⟩
          rw [← hc] at hcells
          have hf := insOp_fit (k := m) c (by omega)
          have i1 : (0 : Int) ≤ (m : Int) := by omega
          have i2 : (m : Int) < (t.length : Int) := by omega
          have hri := Lib.hid (fun W (hb : Below wr.heap.size wr W) => right_chain t _ ok m W (hOr.stayB hb) (by omega) hlt)
          replace hcells := Lib.hid hcells
          replace hc := Lib.hid hc
          replace hbr := Lib.hid hbr
          clear hOr hO
          go_wp2_with (first
            | (refine wpList_load_mid rfl 283 (.tmp 55) rfl b (o + m * 37) rfl (opCells (insOp m c)) _ (fun j v hv => hcells.out j v hv) Tryz.underlying283 rfl (opSz hf) ?_)
            | (refine wpList_store_blk rfl 283 (.tmp 13) (.tmp 56) rfl wr.heap.size (opCells (insOp m c)) rfl rfl 283 zeroOp (Blk.new_at rfl) (by rw [opCells_len hf]; rfl) (opSz hf) (opCells_one _) ?_
               generalize hw1 : World.setRow _ wr.heap.size (opCells (insOp m c)).toArray = w9
               have hB9 : Blk w9 wr.heap.size 283 (opCells (insOp m c)) := by
                 rw [← hw1]
                 exact (Blk.new_at (w := wr) (t := 283) (cs := zeroOp) rfl).setRow_same (opCells (insOp m c))
               have hb9 : Below wr.heap.size wr w9 := by
                 rw [← hw1]
                 exact below_setRow ((Below.refl wr.heap.size wr).alloc (Nat.le_refl _) (.cells zeroOp.toArray 283)) (Nat.le_refl _) (opCells (insOp m c)).toArray
               clear hw1
               replace hB9 := Lib.hid hB9
               replace hb9 := Lib.hid hb9
               go_frame)
            | fail)
          refine (hri.out _ hb9.out).mono ?_
          rintro e w10 ⟨rfl, hb10⟩
          have hB10 := hB9.out.below hb10 hB9.out.lt
          have hbr10 := Lib.hid (hbr.out.trans ((hb9.out.mono hbr.out.size).trans (hb10.mono (Nat.le_trans hbr.out.size hb9.out.size))))
          clear hri hb10
          have hB3 : Hid (∀ w', (∃ n, w' = w10.drewN n) → Blk w' wr.heap.size 283 (opCells (insOp m c))) := Lib.hid (by rintro _ ⟨n, rfl⟩; exact hB10.drewN n)
          have hsr := Lib.hid (refSz (r := (insOp m c).at_) (atRef_com m))
          by_cases hm0 : m = 0
          · have hne : (!((insOp m c).at_.own == rootRef.own && ((insOp m c).at_.com == rootRef.com && (insOp m c).at_.n == rootRef.n))) = false := by
              rw [hm0]
              rfl
            go_wp2_with fail
            refine wp_region_quiet_lit (by kernel_rfl) (by kernel_rfl) ?_
            repeat (first
              | go_big_quiet_step (fail)
              | (refine wpQuiet_load_part 276 (.tmp 64) rfl rfl wr.heap.size 2 rfl 283 (opCells (insOp m c)) (refCells (insOp m c).at_) [B c] hB3.out rfl _ Tryz.underlying276 rfl hsr.out ?_; go_frame)
              | (refine wpQuiet_run (.binOp .neq 276 (.tmp 65) (.tmp 66) 276) rfl rfl (.bool false) (fun w' _ => (exec_neq_ref w' rfl (insOp m c).at_ rootRef rfl rfl (atRef_com m) rfl).trans (by rw [hne])) ?_; go_frame))
            refine wpQuiet_nil ?_
            rintro _ ⟨nq2, rfl⟩
            have hbf := hbr10.out.trans ((Touch.drewN (L := []) nq2).below hbr10.out.size (fun _ hi => by cases hi))
            go_wp2_with fail
            refine ⟨⟨m + 1, by omega, by go_num, hbf⟩, by simp [intOf]; omega⟩
          · have hne : (!((insOp m c).at_.own == rootRef.own && ((insOp m c).at_.com == rootRef.com && (insOp m c).at_.n == rootRef.n))) = true := by
              have : (insOp m c).at_.own = true := by
                show (atRef m).own = true
                rw [atRef_own]
                simp [hm0]
              rw [this]
              rfl
            have p2 : w10.cell? ⟨wr.heap.size, 2, none⟩ = some (.bool true) := by
              have := (op_cells hB10 hf).2.2.1
              rw [this]
              show some (Value.bool (atRef m).own) = _
              rw [atRef_own]
              simp [hm0]
            go_wp2_with fail
            refine wp_region_quiet_lit (by kernel_rfl) (by kernel_rfl) ?_
            repeat (first
              | go_big_quiet_step (fail)
              | (refine wpQuiet_load_part 276 (.tmp 64) rfl rfl wr.heap.size 2 rfl 283 (opCells (insOp m c)) (refCells (insOp m c).at_) [B c] hB3.out rfl _ Tryz.underlying276 rfl hsr.out ?_; go_frame)
              | (refine wpQuiet_run (.binOp .neq 276 (.tmp 65) (.tmp 66) 276) rfl rfl (.bool true) (fun w' _ => (exec_neq_ref w' rfl (insOp m c).at_ rootRef rfl rfl (atRef_com m) rfl).trans (by rw [hne])) ?_; go_frame))
            refine wpQuiet_nil ?_
            rintro _ ⟨nq2, rfl⟩
            have hbf := hbr10.out.trans ((Touch.drewN (L := []) nq2).below hbr10.out.size (fun _ hi => by cases hi))
            go_wp2_with fail
            refine ⟨⟨m + 1, by omega, by go_num, hbf⟩, by simp [intOf]; omega⟩
        · have hmt : m = t.length := by omega
          subst hmt
          go_wp2_with fail
          go_returns
          exact ⟨rfl, hb3.out.trans (hbr.mono hb3.out.size)⟩
end Go.Proofs.YtamdhaoglapnnaaGreatDoor
