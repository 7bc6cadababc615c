/- The tree of a text: its operations are done. -/
import Derived.Test.YtamdhaoglapnnaaGreatDoorM29
namespace Go.Proofs.YtamdhaoglapnnaaGreatDoor
open Go.RowKit
open Go.Maps Go.MapKept Go.ChangeMaps

theorem bsearch_nil (x f : Value) (w : World) : Calls Tryz.prog 265 #[nilS, x, f] w fun e w' => e = .returned (.tuple #[.int .i64 0, .bool false]) ∧ w' = w := by
  go_enter Tryz.func265, Tryz.ntmps265
  go_wp2_with fail
  refine wp_loop_rounds 1 ?_
  rw [rounds_succ]
  go_wp2_with fail
  go_returns
  exact ⟨rfl, rfl⟩
set_option maxRecDepth 100000 in
set_option maxHeartbeats 1000000 in
theorem insert_nil (a : Addr) (n : Nat) (w : World) (hc : w.cell? a = some (.pointer (some ⟨n, 0, none⟩))) : Calls Tryz.prog 267 #[nilS, .int .i64 0, .slice (some a) 1 1] w fun e w' =>
    ∃ V, e = .returned V ∧ w'.ownsRow w.heap.size 352 1 V 1 [.pointer (some ⟨n, 0, none⟩)] ∧ Below w.heap.size w w' := by
  have hsp := World.cell?_spot hc
  obtain ⟨b, o, sp⟩ := a
  dsimp only at hsp
  subst hsp
  have hrd : Rd w (fun _ => True) (some ⟨b, o, none⟩) [.pointer (some ⟨n, 0, none⟩)] := fun _ => ⟨_, rfl, trivial, fun j u hj => by
    cases j with
    | zero => simpa [addr_add] using (Option.some.inj hj) ▸ hc
    | succ j => simp at hj⟩
  have hnil : w.ownsRow w.heap.size 352 1 nilS 0 [] := ⟨rfl, .inl ⟨rfl, rfl⟩⟩
  go_enter Tryz.func267, Tryz.ntmps267
  go_wp2_with (at_builtin; refine wpList_append_rd _ rfl (.tmp 23) (.tmp 24) 350 rfl w.heap.size 352 (.pointer none) 1 8 Tryz.underlying350 infoN nilS 0 [] rfl hnil (fun _ => True) (some ⟨b, o, none⟩) 1 1 [.pointer (some ⟨n, 0, none⟩)] rfl rfl hrd (by simp [Value.oneCell']) (by unfold maxLen; omega) (by omega) (Nat.le_refl _) ?_; intro v4 W4 hrow4 hg4 hv4; replace hrow4 := Lib.hid hrow4; replace hg4 := Lib.hid hg4; clear hv4; obtain ⟨VA, vc, rfl, _, _⟩ := own_form hrow4.out; go_frame)
  go_returns
  exact ⟨_, rfl, by simpa using hrow4.out, own_below hnil hg4.out (Nat.le_refl _)⟩
theorem build_node (r : PRef) (c : UInt8) (hr : r.com.length = 32) (w : World) : (Instr.build 354 #[(0, .agg (refCells r).toArray), (1, B c)]).run Tryz.prog w = .ok (.agg (nodeCells r c false nilS nilS).toArray) w := by
  obtain ⟨o, d, n⟩ := r
  dsimp only at hr
  iterate 32 (rcases d with _ | ⟨_, d⟩; · (exfalso; simp at hr; done))
  obtain rfl : d = [] := by
    simp only [List.length_cons] at hr
    exact List.length_eq_zero_iff.1 (by omega)
  kernel_rfl
theorem nodeLen (r : PRef) (c : UInt8) (g : Bool) (x y : Value) (hr : r.com.length = 32) : (nodeCells r c g x y).length = 38 := by simp [nodeCells, refCells, hr]
def byE (id : Str) (nf : Nat → Nat) (m : Nat) : List (Value × Value) := (List.range m).map fun i => (refV ⟨false, id, ((i + 1 : Nat) : Int)⟩, Value.pointer (some ⟨nf i, 0, none⟩))
/-- In the middle of the doing: m elements stand in a row, each on the right of the one ahead. -/
structure AddSt (W0 W : World) (tb nb mb ab : Nat) (id t : Str) (m : Nat) (nf : Nat → Nat) (rf : Nat → Value) : Prop where
  touch : Touch [tb, nb, mb, ab] W0 W
  tree : Blk W tb 357 (treeCells nb mb ab m)
  last : rf m = nilS
  root : Blk W nb 354 (nodeCells rootRef 0 true nilS (rf 0))
  node : ∀ i c, i < m → t[i]? = some c → Blk W (nf i) 354 (nodeCells ⟨false, id, ((i + 1 : Nat) : Int)⟩ c false nilS (rf (i + 1))) ∧ W0.heap.size ≤ nf i
  link : ∀ i, i < m → ∃ a cap cs, rf i = .slice (some a) 1 cap ∧ W.cell? a = some (.pointer (some ⟨nf i, 0, none⟩)) ∧ Blk W a.block 352 cs ∧ W0.heap.size ≤ a.block
  by_ : MapV W mb (byE id nf m)
  added : MapV W ab [(.agg (id.map B).toArray, .int .i64 t.length)]
theorem AddSt.calm {W0 W W' : World} {tb nb mb ab : Nat} {id t : Str} {m : Nat} {nf : Nat → Nat} {rf : Nat → Value} (h : AddSt W0 W tb nb mb ab id t m nf rf) (hb : Below W.heap.size W W') : AddSt W0 W' tb nb mb ab id t m nf rf :=
  ⟨h.touch.under (hb.mono h.touch.size), h.tree.below hb h.tree.lt, h.last, h.root.below hb h.root.lt, fun i c hi hc => ⟨(h.node i c hi hc).1.below hb (h.node i c hi hc).1.lt, (h.node i c hi hc).2⟩,
    fun i hi => by
      obtain ⟨a, cap, cs, h1, h2, h3, h4⟩ := h.link i hi
      exact ⟨a, cap, cs, h1, (hb.cell (p := a) h3.lt).trans h2, h3.below hb h3.lt, h4⟩, h.by_.below hb h.by_.lt, h.added.below hb h.added.lt⟩
theorem chain_at_ {W0 W : World} {tb nb mb ab : Nat} {id t : Str} {m : Nat} {nf : Nat → Nat} {rf : Nat → Value} (h : AddSt W0 W tb nb mb ab id t m nf rf) (hm : m = t.length) : ∀ (s : Str) (k : Nat), t.drop k = s → k + s.length = m → ∃ ns, ChainAt W id k s (rf k) ns
  | [], k, _, hk => ⟨[], by
      have : k = m := by simpa using hk
      subst this
      exact h.last, rfl⟩
  | c :: s, k, hd, hk => by
    have hkm : k < m := by simp at hk; omega
    have hc : t[k]? = some c := by
      have : (t.drop k)[0]? = some c := by rw [hd]; rfl
      simpa using this
    have hd' : t.drop (k + 1) = s := by
      have : (t.drop k).drop 1 = s := by rw [hd]; rfl
      simpa [List.drop_drop, Nat.add_comm] using this
    obtain ⟨ns, hns⟩ := chain_at_ h hm s (k + 1) hd' (by simp at hk; omega)
    obtain ⟨a, cap, cs, h1, h2, _, _⟩ := h.link k hkm
    exact ⟨nf k :: ns, a, cap, nf k, rf (k + 1), ns, h1, h2, (h.node k c hkm hc).1, hns, rfl⟩
theorem touch_map {w w' : World} {b : Nat} (h : w.mapTurned w' b) : Touch [b] w w' := by
  obtain ⟨es, ck, es', ck', hb, rfl⟩ := h
  refine ⟨rfl, rfl, rfl, by simp [setBlock], fun i hi hn => ?_⟩
  have : b ≠ i := fun e => hn (by simp [e])
  simp [setBlock, this]
theorem MapV.touch {L : List Nat} {w w' : World} {b : Nat} {es : List (Value × Value)} (h : MapV w b es) (ht : Touch L w w') (hn : b ∉ L) : MapV w' b es := h.block (ht.block _ h.lt hn)
theorem MapV.ne_blk {w : World} {b g : Nat} {es : List (Value × Value)} {t : TypeId} {cs : List Value} (h : MapV w b es) (hB : Blk w g t cs) : g ≠ b := fun e => by
  obtain ⟨xs, c, h1, _⟩ := h
  rw [e] at hB
  have := hB.symm.trans h1
  injection this with this
  cases this
theorem B_digK (d : Str) (h : d.length = 32) : digK (.agg (d.map B).toArray) := ⟨d, h, rfl⟩
set_option maxRecDepth 100000 in
set_option maxHeartbeats 8000000 in
theorem add_chain (t : Str) (ht : t.length ≤ 1000) (tb nb mb ab : Nat) (id : Str) (hid : id.length = 32) (o : Value) (ok : Nat → Prop) (w : World) (hT : TreeAt w tb nb mb ab 0 [] [] nilS) (hok : ∀ b, ok b → b ∉ [tb, nb, mb, ab]) (hmab : mb ≠ ab)
    (h : OpsIs w ok o (chain t)) :
    Calls Tryz.prog 193 #[.pointer (some ⟨tb, 0, none⟩), .agg (id.map B).toArray, o] w fun e w' => e = .returned (.int .i64 0) ∧ ∃ nf rf, AddSt w w' tb nb mb ab id t t.length nf rf := by
  have hcl : (chain t).length = t.length := chain_len t 0
  obtain ⟨OA, oc, rfl, hoc, hor⟩ := h
  have hO : Hid (OpsIs w ok (.slice OA (chain t).length oc) (chain t)) := Lib.hid ⟨OA, oc, rfl, hoc, hor⟩
  rw [hcl] at hO ⊢
  clear hor hoc
  generalize hW1 : (w.alloc (.cells (id.map B).toArray 115)) = w1
  have hb1 : Below w.heap.size w w1 := by rw [← hW1]; exact (Below.refl _ _).alloc (Nat.le_refl _) _
  have hI : Blk w1 w.heap.size 115 (id.map B) := by rw [← hW1]; exact Blk.new_at (cs := id.map B) rfl
  have hT1 := hT.below hb1
  have hmade := Lib.hid (fmade_any tb nb mb ab 0 [] [] nilS w1 hT1)
  have hwr := Lib.hid (wrong_chain t ht tb nb mb ab 0 [] [] id hid (.slice OA t.length oc) ok w1 hT1.tree hT1.by_ hT1.added (by simp) (by simp) (by simp; omega) (hO.out.stayB hb1))
  replace hI := Lib.hid hI
  replace hT1 := Lib.hid hT1
  replace hb1 := Lib.hid hb1
  go_enter Tryz.func193, Tryz.ntmps193
  go_wp2_with fail
  refine hmade.out.mono ?_
  rintro e w2 ⟨rfl, rfl⟩
  go_wp2_with (first
    | (refine wpList_load_blk rfl 115 (.tmp 4) rfl w.heap.size rfl 115 (id.map B) hI.out _ Tryz.underlying115 rfl (digSz hid) ?_)
    | fail)
  refine hwr.out.mono ?_
  rintro e w3 ⟨rfl, hb3⟩
  have hI3 := hI.out.below hb3 hI.out.lt
  have hT3 := hT1.out.below hb3
  have hb3' := hb1.out.trans (hb3.mono hb1.out.size)
  have c2 : w3.cell? ⟨tb, 2, none⟩ = some (.map (some ab)) := hT3.tree.cell 2
  clear hmade hwr hb3 hI hT1 hb1
  have hI4 : Hid (∀ w', (∃ n, w' = w3.drewN n) → Blk w' w.heap.size 115 (id.map B)) := Lib.hid (by rintro _ ⟨n, rfl⟩; exact hI3.drewN n)
  replace hI3 := Lib.hid hI3
  replace hT3 := Lib.hid hT3
  replace hb3' := Lib.hid hb3'
  go_wp2_with fail
  refine quiet_tail 7 (by kernel_rfl) (by kernel_rfl) ?_
  simp only [List.take_succ_cons, List.take_zero, List.drop_succ_cons, List.drop_zero]
  repeat (first
    | go_big_quiet_step (fail)
    | (refine wpQuiet_load_part 115 (.tmp 4) rfl rfl w.heap.size 0 rfl 115 (id.map B) (id.map B) [] hI4.out (by simp) _ Tryz.underlying115 rfl (digSz hid) ?_; go_frame))
  refine wpQuiet_nil ?_
  rintro _ ⟨nq, rfl⟩
  have hA3 : MapV (w3.drewN nq) ab [] := hT3.out.added.block rfl
  obtain ⟨w4, hrun, hA4, ht4⟩ := hA3.store digKeys Tryz.underlying99 (by simp) (B_digK id hid) (by simp) (.int .i64 t.length)
  have htab : Touch [ab] (w3.drewN nq) w4 := touch_map ht4
  refine wpList_skip rfl (exec_mapUpdate 99 (.tmp 28) (.tmp 29) (.tmp 31) rfl _ _ _ rfl rfl rfl hrun) ?_
  have hT4' : Touch [tb, nb, mb, ab] w w4 := ((Touch.ofBelow (hb3'.out.trans ((Touch.drewN (L := []) nq).below hb3'.out.size (fun _ hi => by cases hi)))).trans htab (fun i hi => .inl (by simp at hi ⊢; exact .inr (.inr (.inr hi)))))
  have hab := hT3.out.added.lt
  have hmb := hT3.out.by_
  have hn1 : tb ≠ ab := hT3.out.added.ne_blk hT3.out.tree
  have hn2 : nb ≠ ab := hT3.out.added.ne_blk hT3.out.root
  have hablt : ab < w.heap.size := hT.added.lt
  have hst4 : AddSt w w4 tb nb mb ab id t 0 (fun _ => 0) (fun _ => nilS) := ⟨hT4', (hT3.out.tree.drewN nq).touch htab (by simpa using hn1), rfl, (hT3.out.root.drewN nq).touch htab (by simpa using hn2), fun i c hi => by omega, fun i hi => by omega, (hmb.block rfl : MapV (w3.drewN nq) mb []).touch htab (by simpa using hmab), by simpa using hA4⟩
  have hI5 : Blk w4 w.heap.size 115 (id.map B) := (hI3.out.drewN nq).touch htab (by simp; omega)
  clear hrun hA4 ht4 hA3 hmb hI4 c2
  replace hst4 := Lib.hid hst4
  replace hI5 := Lib.hid hI5
  go_wp2_with fail
  go_loopw [34] (fun i wr => ∃ (m : Nat) (nf : Nat → Nat) (rf : Nat → Value), m ≤ t.length ∧ i = .int .i64 m ∧ AddSt w wr tb nb mb ab id t m nf rf ∧ Blk wr w.heap.size 115 (id.map B)) (fun i _ => t.length - (intOf i).toNat)
  case atStart => exact ⟨0, _, _, Nat.zero_le _, rfl, hst4.out, hI5.out⟩
  case round =>
    obtain ⟨m, nf, rf, hm, rfl, hst, hIr⟩ := hrel
    by_cases hlt : m < t.length
    · have hOr : OpsIs wr ok (.slice OA t.length oc) (chain t) := hO.out.stay (fun b hb hl => hst.touch.block b hl (hok b hb)) (fun b hb _ => hb)
      obtain ⟨b, o, rfl, hbl, hcells⟩ := chain_op hOr (by omega) hlt
      obtain ⟨c, hc⟩ : ∃ c, c = t[m] := ⟨_, rfl⟩
      rw [← hc] at hcells
      have hf := insOp_fit (k := m) c (by omega)
      have i1 : (0 : Int) ≤ (m : Int) := by omega
      have i2 : (m : Int) < (t.length : Int) := by omega
      replace hcells := Lib.hid hcells
      replace hc := Lib.hid hc
      replace hst := Lib.hid hst
      replace hIr := Lib.hid hIr
      have hsr := Lib.hid (refSz (r := (insOp m c).at_) (atRef_com m))
      clear hOr hO
      go_wp2_with (first
        | (refine wpList_load_mid rfl 283 (.tmp 37) rfl b (o + m * 37) rfl (opCells (insOp m c)) _ (fun j v hv => hcells.out j v hv) Tryz.underlying283 rfl (opSz hf) ?_)
        | (refine wpList_store_blk rfl 283 (.tmp 9) (.tmp 38) rfl wr.heap.size (opCells (insOp m c)) rfl rfl 283 zeroOp (Blk.new_at rfl) (by rw [opCells_len hf]; rfl) (opSz hf) (opCells_one _) ?_
           generalize hw1 : World.setRow _ wr.heap.size (opCells (insOp m c)).toArray = w9
           have hB9 : Blk w9 wr.heap.size 283 (opCells (insOp m c)) := by
             rw [← hw1]
             exact (Blk.new_at (w := wr) (t := 283) (cs := zeroOp) rfl).setRow_same (opCells (insOp m c))
           have hb9 : Below wr.heap.size wr w9 := by
             rw [← hw1]
             exact below_setRow ((Below.refl wr.heap.size wr).alloc (Nat.le_refl _) (.cells zeroOp.toArray 283)) (Nat.le_refl _) (opCells (insOp m c)).toArray
           clear hw1
           have hI9 := Lib.hid (hIr.out.below hb9 hIr.out.lt)
           replace hB9 := Lib.hid hB9
           replace hb9 := Lib.hid hb9
           go_frame)
        | (refine wpList_load_blk rfl 115 (.tmp 4) rfl w.heap.size rfl 115 (id.map B) hI9.out _ Tryz.underlying115 rfl (digSz hid) ?_)
        | (refine wpList_load_part rfl 276 (.tmp 41) rfl wr.heap.size 2 rfl 283 (opCells (insOp m c)) (refCells (insOp m c).at_) [B c] hB9.out rfl _ Tryz.underlying276 rfl hsr.out ?_)
        | fail)
      have hst9 := hst.out.calm hb9.out
      obtain ⟨cur, hcur⟩ : ∃ cur, cur = if m = 0 then nb else nf (m - 1) := ⟨_, rfl⟩
      have hfind : Calls Tryz.prog 264 #[.pointer (some ⟨tb, 0, none⟩), .agg (id.map B).toArray, .agg (refCells (insOp m c).at_).toArray] w9 fun e w' => e = .returned (.pointer (some ⟨cur, 0, none⟩)) ∧ Below w9.heap.size w9 w' := by
        show Calls Tryz.prog 264 #[.pointer (some ⟨tb, 0, none⟩), .agg (id.map B).toArray, refV (atRef m)] w9 _
        by_cases hm0 : m = 0
        · rw [hcur, if_pos hm0, hm0]
          exact find_root tb nb mb ab _ id w9 hst9.tree
        · obtain ⟨k, rfl⟩ : ∃ k, m = k + 1 := ⟨m - 1, by omega⟩
          rw [hcur, if_neg hm0, at_succ]
          refine find_own tb nb mb ab _ _ id hid k _ w9 hst9.tree hst9.by_ ?_ ?_ ?_ (by omega)
          · intro q hq
            obtain ⟨i, _, rfl⟩ := List.mem_map.1 hq
            exact ⟨_, hid, rfl⟩
          · exact List.mem_map.2 ⟨k, by simp, rfl⟩
          · intro q hq he
            obtain ⟨i, _, rfl⟩ := List.mem_map.1 hq
            have h1 := (refV_inj (r := ⟨false, id, ((i + 1 : Nat) : Int)⟩) (s := ⟨false, id, ((k + 1 : Nat) : Int)⟩) hid hid).1 he
            injection h1 with _ _ h1
            have : i = k := by omega
            subst this
            rfl
      refine hfind.mono ?_
      rintro e w10 ⟨rfl, hb10⟩
      have hst10 := hst9.calm hb10
      have hB10 := hB9.out.below hb10 hB9.out.lt
      have hI10 := Lib.hid (hI9.out.below hb10 hI9.out.lt)
      obtain ⟨p0, p1, _, _, p36⟩ := op_cells hB10 hf
      have q0 : w10.cell? ⟨wr.heap.size, 0, none⟩ = some (.int .i64 1) := p0
      have q36 : w10.cell? ⟨wr.heap.size, 36, none⟩ = some (B c) := p36
      have hcurB : ∃ rc bc gc, Blk w10 cur 354 (nodeCells rc bc gc nilS nilS) ∧ rc.com.length = 32 ∧ (cur = nb ∨ w.heap.size ≤ cur) := by
        by_cases hm0 : m = 0
        · refine ⟨rootRef, 0, true, ?_, rfl, .inl (by rw [hcur, if_pos hm0])⟩
          have h1 := hst10.root
          have h2 := hst10.last
          rw [hm0] at h2
          rw [h2] at h1
          rw [hcur, if_pos hm0]
          exact h1
        · obtain ⟨k, rfl⟩ : ∃ k, m = k + 1 := ⟨m - 1, by omega⟩
          obtain ⟨h1, h2⟩ := hst10.node k t[k] (by omega) (List.getElem?_eq_getElem (by omega))
          rw [hst10.last] at h1
          have e : cur = nf k := by rw [hcur, if_neg hm0, Nat.add_sub_cancel]
          exact ⟨_, _, _, by rw [e]; exact h1, hid, .inr (by rw [e]; exact h2)⟩
      obtain ⟨rc, bc, gc, hcB, hrc, hcw⟩ := hcurB
      replace hcB := Lib.hid hcB
      replace hcw := Lib.hid hcw
      replace hcur := Lib.hid hcur
      have hb10' := Lib.hid hb10
      replace hst10 := Lib.hid hst10
      replace hB10 := Lib.hid hB10
      clear hb10 hfind hst9 hst hIr hcells
      go_wp2_with (first
        | (refine wpList_load_blk rfl 115 (.tmp 4) rfl w.heap.size rfl 115 (id.map B) hI10.out _ Tryz.underlying115 rfl (digSz hid) ?_)
        | (refine wpList_value rfl (.agg (refCells ⟨false, id, (m : Int) + 1⟩).toArray) (exec_build2 276 1 2 (.tmp 62) (.tmp 64) rfl (.agg (id.map B).toArray) (.int .i64 ((m : Int) + 1)) _ rfl rfl (build_ref id _ hid _)) ?_)
        | (refine wpList_value rfl (.agg (nodeCells ⟨false, id, (m : Int) + 1⟩ c false nilS nilS).toArray) (exec_build2 354 0 1 (.tmp 65) (.tmp 67) rfl (.agg (refCells ⟨false, id, (m : Int) + 1⟩).toArray) (B c) _ rfl rfl (build_node ⟨false, id, (m : Int) + 1⟩ c hid _)) ?_)
        | fail)
      obtain ⟨nr, hnr⟩ : ∃ nr : PRef, nr = ⟨false, id, (m : Int) + 1⟩ := ⟨_, rfl⟩
      have hnrc : nr.com.length = 32 := by rw [hnr]; exact hid
      rw [← hnr]
      generalize hW11 : World.alloc w10 (Obj.cells _ 354) = w11
      have hN11 : Blk w11 w10.heap.size 354 (nodeCells nr c false nilS nilS) := by rw [← hW11]; exact Blk.new_at (cs := nodeCells nr c false nilS nilS) rfl
      have hb11 : Below w10.heap.size w10 w11 := by rw [← hW11]; exact (Below.refl _ _).alloc (Nat.le_refl _) _
      have hst11 := hst10.out.calm hb11
      have hB11 := hB10.out.below hb11 hB10.out.lt
      have hI11 := hI10.out.below hb11 hI10.out.lt
      have hc11 := hcB.out.below hb11 hcB.out.lt
      have t1 : w11.cell? ⟨tb, 1, none⟩ = some (.map (some mb)) := hst11.tree.cell 1
      have hN12 : Hid (∀ w', (∃ n, w' = w11.drewN n) → Blk w' w10.heap.size 354 (nodeCells nr c false nilS nilS)) := Lib.hid (by rintro _ ⟨n, rfl⟩; exact hN11.drewN n)
      clear hW11 q0 q36 p0 p1 p36
      replace hst11 := Lib.hid hst11
      replace hB11 := Lib.hid hB11
      replace hI11 := Lib.hid hI11
      replace hc11 := Lib.hid hc11
      replace hnr := Lib.hid hnr
      refine quiet_tail 9 (by kernel_rfl) (by kernel_rfl) ?_
      simp only [List.take_succ_cons, List.take_zero, List.drop_succ_cons, List.drop_zero]
      repeat (first
        | go_big_quiet_step (fail)
        | (refine wpQuiet_load_part 276 (.tmp 76) rfl rfl w10.heap.size 0 rfl 354 (nodeCells nr c false nilS nilS) (refCells nr) [B c, .bool false, nilS, nilS] hN12.out rfl _ Tryz.underlying276 rfl (refSz hnrc) ?_; go_frame))
      refine wpQuiet_nil ?_
      rintro _ ⟨nq2, rfl⟩
      have hM11 : MapV (w11.drewN nq2) mb (byE id nf m) := hst11.out.by_.block rfl
      obtain ⟨w12, hrun, hM12, ht12⟩ := hM11.store refKeys Tryz.underlying355 (fun q hq => by
        obtain ⟨i, _, rfl⟩ := List.mem_map.1 hq
        exact ⟨_, hid, rfl⟩) (⟨nr, hnrc, rfl⟩ : refK (refV nr)) (fun q hq he => by
        obtain ⟨i, hi, rfl⟩ := List.mem_map.1 hq
        have h1 := (refV_inj (r := ⟨false, id, ((i + 1 : Nat) : Int)⟩) hid hnrc).1 he
        rw [hnr.out] at h1
        injection h1 with _ _ h1
        have := List.mem_range.1 hi
        omega) (.pointer (some ⟨w10.heap.size, 0, none⟩))
      have ht12' := touch_map ht12
      have hk12 : ∀ g t' cs, Blk w11 g t' cs → Blk w12 g t' cs := fun g t' cs hB => (hB.drewN nq2).touch ht12' (by simpa using hM11.ne_blk (hB.drewN nq2))
      have hT12 := hk12 _ _ _ hst11.out.tree
      have hB12 := hk12 _ _ _ hB11.out
      have hc12 := hk12 _ _ _ hc11.out
      have hI12 := hk12 _ _ _ hI11.out
      have hN12' := hk12 _ _ _ hN11
      have n1 : wr.heap.size ≠ tb := hB12.ne_ hT12 (by decide)
      have n2 : cur ≠ tb := hc12.ne_ hT12 (by decide)
      have t3 : w12.cell? ⟨tb, 3, none⟩ = some (.int .i64 m) := hT12.cell 3
      have f3 := hT12.frozen 3
      have x1 : ∀ u, (w12.setCell ⟨tb, 3, none⟩ u).cell? ⟨wr.heap.size, 1, none⟩ = some (.bool false) := fun u => (hB12.far (p := ⟨tb, 3, none⟩) n1 u).cell 1
      have x37 : ∀ u, (w12.setCell ⟨tb, 3, none⟩ u).cell? ⟨cur, 37, none⟩ = some nilS := fun u => by
        rw [(hc12.far (p := ⟨tb, 3, none⟩) n2 u).cell]
        simp [nodeCells, refCells, hrc]
      refine wpList_skip rfl (exec_mapUpdate 355 (.tmp 73) (.tmp 77) (.tmp 78) rfl _ _ _ rfl rfl rfl hrun) ?_
      replace hk12 := Lib.hid hk12
      replace hT12 := Lib.hid hT12
      replace hB12 := Lib.hid hB12
      replace hc12 := Lib.hid hc12
      replace hI12 := Lib.hid hI12
      replace hN12' := Lib.hid hN12'
      replace hM12 := Lib.hid hM12
      replace ht12' := Lib.hid ht12'
      clear hrun ht12 hM11 hN12 t1
      go_wp2_with fail
      refine (bsearch_nil _ _ _).mono ?_
      rintro e w13 ⟨rfl, rfl⟩
      go_wp2_with fail
      generalize hW14 : World.alloc (World.setCell w12 _ _) (Obj.cells _ 352) = w14
      have hb14 : Below (w12.setCell ⟨tb, 3, none⟩ (.int .i64 ((m : Int) + 1))).heap.size (w12.setCell ⟨tb, 3, none⟩ (.int .i64 ((m : Int) + 1))) w14 := by rw [← hW14]; exact (Below.refl _ _).alloc (Nat.le_refl _) _
      have hk14 : ∀ g t' cs, Blk w12 g t' cs → g ≠ tb → Blk w14 g t' cs := fun g t' cs hB hne => by
        rw [← hW14]
        exact (hB.far (p := ⟨tb, 3, none⟩) hne _).alloc _
      have hT14 : Blk w14 tb 357 (treeCells nb mb ab ((m : Int) + 1)) := by
        rw [← hW14]
        exact (hT12.out.set_ 3 _).alloc _
      have hL14 : Blk w14 w12.heap.size 352 [.pointer (some ⟨w10.heap.size, 0, none⟩)] := by
        rw [← hW14]
        exact Blk.new_at (cs := [.pointer (some ⟨w10.heap.size, 0, none⟩)]) (by simp)
      have hM14 : MapV w14 mb (byE id nf m ++ [(refV nr, .pointer (some ⟨w10.heap.size, 0, none⟩))]) := by
        rw [← hW14]
        exact (hM12.out.block (Below.heap_setCell _ _ _ _ (fun e => hM12.out.ne_blk hT12.out e.symm))).alloc _
      have hA14 : MapV w14 ab [(.agg (id.map B).toArray, .int .i64 t.length)] := by
        have hA12 : MapV w12 ab _ := (hst11.out.added.block (w' := w11.drewN nq2) rfl).touch ht12'.out (by simpa using fun e => hmab e.symm)
        rw [← hW14]
        exact (hA12.block (Below.heap_setCell _ _ _ _ (fun e => hA12.ne_blk hT12.out e.symm))).alloc _
      have hs14 : w14.heap.size = w12.heap.size + 1 := by rw [← hW14]; simp
      clear hW14 x1 x37 t3 f3
      refine (insert_nil ⟨w12.heap.size, 0, none⟩ w10.heap.size w14 (hL14.cell 0)).mono ?_
      rintro e w15 ⟨V, rfl, hV15, hb15⟩
      obtain ⟨eb, ecap, erest, rfl, heb, hE15⟩ := own_one hV15
      clear hV15
      have hc15 := (hk14 _ _ _ hc12.out n2).below hb15 (hk14 _ _ _ hc12.out n2).lt
      have c37 : w15.cell? ⟨cur, 37, none⟩ = some nilS := by
        rw [hc15.cell]
        simp [nodeCells, refCells, hrc]
      have f37 := hc15.frozen 37
      replace hc15 := Lib.hid hc15
      replace hE15 := Lib.hid hE15
      replace hA14 := Lib.hid hA14
      replace hk14 := Lib.hid hk14
      replace hT14 := Lib.hid hT14
      replace hM14 := Lib.hid hM14
      replace hL14 := Lib.hid hL14
      replace hb15 := Lib.hid hb15
      go_wp2_with fail
      have hnlt : cur < w10.heap.size := hcB.out.lt
      have z14 := hb14.size
      have z15 := hb15.out.size
      have kk : ∀ g t' cs, Blk w12 g t' cs → g ≠ tb → g ≠ cur → Blk (w15.setCell ⟨cur, 37, none⟩ (.slice (some ⟨eb, 0, none⟩) 1 ecap)) g t' cs := fun g t' cs hB h1 h2 =>
        ((hk14.out _ _ _ hB h1).below hb15.out (hk14.out _ _ _ hB h1).lt).far (p := ⟨cur, 37, none⟩) h2 _
      have setN : ∀ (r : PRef) (b : UInt8) (g : Bool) (x y : Value), r.com.length = 32 → (nodeCells r b g nilS x).set 37 y = nodeCells r b g nilS y := fun r b g x y hr => by
        simp [nodeCells, refCells, hr]
      have kc : ∀ r b g x, Blk w12 cur 354 (nodeCells r b g nilS x) → r.com.length = 32 → Blk (w15.setCell ⟨cur, 37, none⟩ (.slice (some ⟨eb, 0, none⟩) 1 ecap)) cur 354 (nodeCells r b g nilS (.slice (some ⟨eb, 0, none⟩) 1 ecap)) := fun r b g x hB hr => by
        have h1 := ((hk14.out _ _ _ hB n2).below hb15.out (hk14.out _ _ _ hB n2).lt).set_ 37 (.slice (some ⟨eb, 0, none⟩) 1 ecap)
        rw [setN r b g x _ hr] at h1
        exact h1
      have same : ∀ (g : Nat) (r r' : PRef) (b b' : UInt8) (q q' : Bool) (x x' : Value), Blk w12 g 354 (nodeCells r b q nilS x) → Blk w12 g 354 (nodeCells r' b' q' nilS x') → r.com.length = 32 → r'.com.length = 32 → r.n = r'.n := fun g r r' b b' q q' x x' h1 h2 hr hr' => by
        have e1 := h1.cell 33
        have e2 := h2.cell 33
        rw [e1] at e2
        simp [nodeCells, refCells, hr, hr'] at e2
        exact e2
      have hT16 : Touch [tb, nb, mb, ab] w (w15.setCell ⟨cur, 37, none⟩ (.slice (some ⟨eb, 0, none⟩) 1 ecap)) := by
        have hA := (hst11.out.touch.trans (Touch.drewN (L := []) nq2) (by simp)).trans ht12'.out (fun i hi => .inl (by simp at hi; simp [hi]))
        have hB := hA.trans (Touch.setCell (L := [tb]) (g := tb) (i := 3) (.int .i64 ((m : Int) + 1)) (by simp)) (fun i hi => .inl (by simp at hi; simp [hi]))
        have hC := hB.under (hb14.mono hB.size)
        have hD := hC.under (hb15.out.mono hC.size)
        refine hD.trans (Touch.setCell (L := [cur]) (g := cur) (i := 37) _ (by simp)) (fun i hi => ?_)
        obtain rfl : i = cur := by simpa using hi
        rcases hcw.out with h1 | h1
        · exact .inl (by simp [h1])
        · exact .inr h1
      have hsw := hst11.out.touch.size
      refine ⟨⟨m + 1, fun i => if i = m then w10.heap.size else nf i, fun i => if i = m then .slice (some ⟨eb, 0, none⟩) 1 ecap else if i = m + 1 then nilS else rf i, by omega, by go_num, ⟨hT16, ?_, ?_, ?_, ?_, ?_, ?_, ?_⟩, ?_⟩, by simp [intOf]; omega⟩
      · have := (hT14.out.below hb15.out hT14.out.lt).far (p := ⟨cur, 37, none⟩) (fun e => n2 e.symm) (.slice (some ⟨eb, 0, none⟩) 1 ecap)
        exact this
      · show (if m + 1 = m then _ else if m + 1 = m + 1 then nilS else rf (m + 1)) = nilS
        rw [if_neg (by omega), if_pos rfl]
      · have hr12 := hk12.out _ _ _ hst11.out.root
        by_cases hm0 : m = 0
        · have e : cur = nb := by rw [hcur.out, if_pos hm0]
          have h1 := kc rootRef 0 true (rf 0) (by rw [e]; exact hr12) rfl
          rw [e] at h1 ⊢
          simp only [hm0, if_true]
          exact h1
        · have hne : nb ≠ cur := fun e => by
            have e2 : cur = nf (m - 1) := by rw [hcur.out, if_neg hm0]
            obtain ⟨h1, _⟩ := hst11.out.node (m - 1) t[m - 1] (by omega) (List.getElem?_eq_getElem (by omega))
            have := same nb _ _ _ _ _ _ _ _ hr12 (by rw [e, e2]; exact hk12.out _ _ _ h1) rfl hid
            simp [rootRef] at this
            omega
          have h1 := kk _ _ _ hr12 (hr12.ne_ hT12.out (by decide)) hne
          simp only [show ¬ (0 = m) by omega, show ¬ (0 = m + 1) by omega, if_false]
          exact h1
      · intro i c' hi hc'
        by_cases him : i = m
        · subst him
          have hcc : c' = c := by
            have h1 := List.getElem?_eq_getElem hlt
            rw [h1] at hc'
            rw [hc.out]
            exact (Option.some.inj hc').symm
          have h1 := kk _ _ _ (hk12.out _ _ _ hN11) ((hk12.out _ _ _ hN11).ne_ hT12.out (by decide)) (by omega)
          rw [hcc]
          simp only [if_true, show ¬ (i + 1 = i) by omega, if_false]
          rw [hnr.out] at h1
          exact ⟨h1, by have := hst10.out.touch.size; omega⟩
        · obtain ⟨h1, h2⟩ := hst11.out.node i c' (by omega) hc'
          have h1' := hk12.out _ _ _ h1
          simp only [him, if_false, show ¬ (i + 1 = m + 1) by omega]
          refine ⟨?_, h2⟩
          by_cases hi1 : i + 1 = m
          · have e : cur = nf i := by rw [hcur.out, if_neg (by omega)]; congr 1; omega
            rw [if_pos hi1, ← e]
            exact kc _ _ _ _ (by rw [e]; exact h1') hid
          · rw [if_neg hi1]
            refine kk _ _ _ h1' (h1'.ne_ hT12.out (by decide)) (fun e => ?_)
            have e2 : cur = nf (m - 1) := by rw [hcur.out, if_neg (by omega)]
            obtain ⟨h3, _⟩ := hst11.out.node (m - 1) t[m - 1] (by omega) (List.getElem?_eq_getElem (by omega))
            have := same (nf i) _ _ _ _ _ _ _ _ h1' (by rw [e, e2]; exact hk12.out _ _ _ h3) hid hid
            simp at this
            omega
      · intro i hi
        have hE16 := hE15.out.far (p := ⟨cur, 37, none⟩) (hE15.out.ne_ hc15.out (by decide)) (.slice (some ⟨eb, 0, none⟩) 1 ecap)
        by_cases him : i = m
        · subst him
          refine ⟨⟨eb, 0, none⟩, ecap, _, by simp, ?_, hE16, ?_⟩
          · simp only [if_true]
            exact hE16.cell 0
          · show w.heap.size ≤ eb
            have := hI12.out.lt
            simp at z14
            omega
        · obtain ⟨a, cap, cs, h1, h2, h3, h4⟩ := hst11.out.link i (by omega)
          have h3' := hk12.out _ _ _ h3
          have h16 := kk _ _ _ h3' (h3'.ne_ hT12.out (by decide)) (h3'.ne_ hc12.out (by decide))
          refine ⟨a, cap, cs, ?_, ?_, h16, h4⟩
          · simp only [him, if_false, show ¬ (i = m + 1) by omega]
            exact h1
          · simp only [him, if_false]
            have e1 : a = ⟨a.block, a.off, none⟩ := by
              have hsp := World.cell?_spot h2
              obtain ⟨a1, a2, a3⟩ := a
              dsimp only at hsp
              subst hsp
              rfl
            rw [e1] at h2 ⊢
            rw [h16.cell]
            rw [h3.cell] at h2
            exact h2
      · have hM15 := hM14.out.block (hb15.out.block _ hM14.out.lt)
        have h1 := hM15.block (Below.heap_setCell w15 ⟨cur, 37, none⟩ (.slice (some ⟨eb, 0, none⟩) 1 ecap) _ (fun e => hM15.ne_blk hc15.out e.symm))
        have h2 : byE id (fun i => if i = m then w10.heap.size else nf i) (m + 1) = byE id nf m ++ [(refV nr, .pointer (some ⟨w10.heap.size, 0, none⟩))] := by
          unfold byE
          rw [List.range_succ, List.map_append]
          congr 1
          · refine List.map_congr_left (fun i hi => ?_)
            have := List.mem_range.1 hi
            simp only [show ¬ i = m by omega, if_false]
          · simp only [List.map_cons, List.map_nil, if_true]
            rw [hnr.out]
            rfl
        rw [h2]
        exact h1
      · have hA15 := hA14.out.block (hb15.out.block _ hA14.out.lt)
        exact hA15.block (Below.heap_setCell w15 ⟨cur, 37, none⟩ (.slice (some ⟨eb, 0, none⟩) 1 ecap) _ (fun e => hA15.ne_blk hc15.out e.symm))
      · exact kk _ _ _ hI12.out (hI12.out.ne_ hT12.out (by decide)) (hI12.out.ne_ hc12.out (by decide))
    · have hmt : m = t.length := by omega
      subst hmt
      go_wp2_with fail
      go_returns
      exact ⟨rfl, nf, rf, hst⟩
end Go.Proofs.YtamdhaoglapnnaaGreatDoor
