/- The walk of commit.ref. -/
import Derived.Test.YtamdhaoglapnnaaGreatDoorM07
section
namespace Go.Proofs.YtamdhaoglapnnaaGreatDoor
open Go.RowKit

set_option maxRecDepth 100000 in
set_option maxHeartbeats 1000000 in
theorem refc_any (r : PRef) (hr : r.com.length = 32) (h0 : -9223372036854775808 ≤ r.n) (h1 : r.n ≤ 9223372036854775807) (w : World) : Calls Tryz.prog 319 #[refV r] w fun e w' => e = .returned (.bool (refOk r)) ∧ Below w.heap.size w w' := by
  have hsr : (Tryz.prog.info? 276).map (·.size) = some (refCells r).length := by
    have e : (refCells r).length = 34 := by simp [refCells, hr]
    have e2 : (Tryz.prog.info? 276).map (·.size) = some 34 := by kernel_rfl
    rw [e2, e]
  have hcr := fun W => root_any r hr W
  have hok : refOk r = if r.own then (r.com == zeros && decide (0 < r.n)) else if r.root then true else (decide (0 < r.n) && decide (r.n ≤ 2000)) := rfl
  obtain ⟨ok, ho⟩ : ∃ ok, ok = refOk r := ⟨_, rfl⟩
  rw [← ho] at hok ⊢
  replace hsr := Lib.hid hsr
  replace hr := Lib.hid hr
  replace ho := Lib.hid ho
  replace hok := Lib.hid hok
  replace hcr := Lib.hid hcr
  have f0 : (refCells r)[0]? = some (.bool r.own) := rfl
  have f33 : (refCells r)[33]? = some (.int .i64 r.n) := by simp [refCells, hr.out]
  have hdp : (refCells r).drop 1 = r.com.map B ++ [.int .i64 r.n] := rfl
  have hsd : (Tryz.prog.info? 115).map (·.size) = some (r.com.map B).length := by rw [List.length_map, hr.out]; kernel_rfl
  replace hdp := Lib.hid hdp
  replace hsd := Lib.hid hsd
  have hzl : zeros.length = 32 := by decide
  replace hzl := Lib.hid hzl
  unfold refV
  go_enter Tryz.func319, Tryz.ntmps319
  go_wp2_with (first
    | (refine wpList_load_part rfl 115 (.tmp 6) rfl w.heap.size 1 rfl 276 (refCells r) (r.com.map B) _ (Blk.new_at rfl) hdp.out _ Tryz.underlying115 rfl hsd.out ?_)
    | (refine wpList_eql_dig rfl (.tmp 7) (.tmp 8) _ rfl r.com zeros rfl rfl hr.out hzl.out ?_)
    | (refine wpList_load_blk rfl 276 (.tmp 1) rfl w.heap.size rfl 276 (refCells r) (Blk.new_at rfl) _ Tryz.underlying276 rfl hsr.out ?_)
    | fail)
  · go_ret
    refine ⟨?_, (Below.refl _ _).alloc (Nat.le_refl _) _⟩
    rw [hok.out]
    simp_all
  · go_ret
    refine ⟨?_, (Below.refl _ _).alloc (Nat.le_refl _) _⟩
    rw [hok.out]
    simp_all
  · refine (hcr.out _).mono ?_
    rintro e W ⟨rfl, hbW⟩
    have hblk : W.heap[w.heap.size]? = some (.cells (refCells r).toArray 276) := by
      rw [hbW.block _ (by simp)]
      exact Blk.new_at (w := w) (t := 276) (cs := refCells r) rfl
    have hW33 : W.cell? ⟨w.heap.size, 33, none⟩ = some (.int .i64 r.n) := by simp [World.cell?, hblk, f33]
    have hbw := ((Below.refl w.heap.size w).alloc (Nat.le_refl _) (.cells (refCells r).toArray 276)).trans (hbW.mono (by simp))
    replace hbw := Lib.hid hbw
    clear hbW
    go_wp2
    all_goals (go_ret; refine ⟨?_, hbw.out⟩; rw [hok.out]; simp_all; try omega)
end Go.Proofs.YtamdhaoglapnnaaGreatDoor
end
section
/- The operations that write a text where there was nothing: plain words. -/
namespace Go.Proofs.YtamdhaoglapnnaaGreatDoor
open Go.RowKit

def ownRef (k : Nat) : PRef := ⟨true, zeros, (k : Int)⟩
def atRef (k : Nat) : PRef := if k = 0 then rootRef else ownRef k
def insOp (k : Nat) (c : UInt8) : POp := ⟨1, false, atRef k, c⟩
def chainFrom : Nat → Str → List POp
  | _, [] => []
  | k, c :: t => insOp k c :: chainFrom (k + 1) t
def chain (t : Str) : List POp := chainFrom 0 t
theorem atRef_com (k : Nat) : (atRef k).com.length = 32 := by
  unfold atRef
  split <;> exact (by decide : zeros.length = 32)
theorem atRef_n (k : Nat) : (atRef k).n = (k : Int) := by
  unfold atRef
  split
  · rename_i h
    rw [h]
    rfl
  · rfl
theorem atRef_own (k : Nat) : (atRef k).own = decide (k ≠ 0) := by
  unfold atRef
  split
  · rename_i h
    simp [h, rootRef]
  · rename_i h
    simp [h, ownRef]
theorem refOk_at (k : Nat) : refOk (atRef k) = true := by
  unfold atRef
  split
  · decide
  · rename_i h
    have : 0 < k := by omega
    simp [refOk, ownRef, this]
theorem chain_len : ∀ (t : Str) (k : Nat), (chainFrom k t).length = t.length
  | [], _ => rfl
  | _ :: t, k => by simp [chainFrom, chain_len t (k + 1)]
theorem chain_at : ∀ (t : Str) (k i : Nat) (h : i < t.length), (chainFrom k t)[i]? = some (insOp (k + i) t[i])
  | c :: t, k, 0, _ => rfl
  | c :: t, k, i + 1, h => by
    have h1 : i < t.length := by simpa using h
    simp only [chainFrom, List.getElem?_cons_succ, List.getElem_cons_succ]
    rw [chain_at t (k + 1) i h1]
    congr 2
    omega
theorem insOp_fit {k : Nat} (c : UInt8) (hk : k ≤ 1000000) : OpFit (insOp k c) := by
  have h := atRef_n k
  constructor
  · exact atRef_com k
  all_goals simp only [insOp]
  all_goals first | (rw [h]; omega) | decide
theorem chain_fit : ∀ (t : Str) (k : Nat), k + t.length ≤ 1000000 → ∀ x ∈ chainFrom k t, OpFit x
  | [], _, _, x, hx => by cases hx
  | c :: t, k, h, x, hx => by
    simp only [List.length_cons] at h
    rcases List.mem_cons.1 hx with rfl | hx
    · exact insOp_fit c (by omega)
    · exact chain_fit t (k + 1) (by omega) x hx
theorem chain_osfit {t : Str} (h : t.length ≤ 1000000) : OsFit (chain t) := ⟨by rw [chain, chain_len]; omega, chain_fit t 0 (by omega)⟩
theorem chain_own {t : Str} {k : Nat} (hk : k < t.length) : ownE (chain t) (k + 1) (insOp k t[k]) = 0 := by
  unfold ownE
  by_cases h0 : k = 0
  · rw [if_neg]
    simp [insOp, atRef_own, h0]
  · have h1 : (((atRef k).n - 1).toNat) = k - 1 := by rw [atRef_n]; omega
    have h2 : (chain t)[k - 1]? = some (insOp (k - 1) t[k - 1]) := by
      have := chain_at t 0 (k - 1) (by omega)
      simpa [chain] using this
    have e : (insOp k t[k]).at_ = atRef k := rfl
    have h3 : decide (((k + 1 : Nat) : Int) ≤ (k : Int)) = false := decide_eq_false (by omega)
    rw [e, h1, h2, atRef_n, h3]
    simp [insOp]
theorem chain_right {t : Str} {k : Nat} (hk : k < t.length) : rightE (chain t) ((k : Int) + 1) = 0 := by
  have hl : (chain t).length = t.length := chain_len t 0
  unfold rightE
  rw [if_neg (by omega), show (((k : Int) + 1) - 1).toNat = k by omega]
  have h2 : (chain t)[k]? = some (insOp k t[k]) := by
    have := chain_at t 0 k hk
    simpa [chain] using this
  rw [h2]
  have h3 : kindE (insOp k t[k]) = 0 := by simp [kindE, insOp]
  have h4 : refOk (insOp k t[k]).at_ = true := refOk_at k
  have h5 : ((k : Int) + 1).toNat = k + 1 := by omega
  simp only [h3, h4, h5, if_true]
  exact chain_own hk
theorem chain_rights {t : Str} : ∀ (n i : Nat), i + n ≤ t.length → rightsE (chain t) i n = 0
  | 0, _, _ => rfl
  | n + 1, i, h => by
    have h1 := chain_right (t := t) (k := i) (by omega)
    have h2 : rightE (chain t) ((i + 1 : Nat) : Int) = 0 := by simpa using h1
    rw [rightsE, if_pos h2, chain_rights n (i + 1) (by omega)]
def comT (a t : Str) : PCom := ⟨[], a, [], chain t⟩
theorem chain_may {a t : Str} (ha : nmOk a = true) (ht : t.length ≤ 2000) : mayC (comT a t) = 0 := by
  have h := chain_rights (t := t) t.length 0 (by omega)
  have hl : (chain t).length = t.length := chain_len t 0
  simp only [mayC, comT, rises, ha, if_true, hl]
  rw [if_neg (by simp), if_neg (by simp), if_neg (by omega), h]
theorem comT_fit {a t : Str} (hl : a.length ≤ 24) (ht : t.length ≤ 2000) : ComFit (comT a t) := ⟨⟨by simp [comT], by intro d hd; cases hd⟩, by simp only [comT]; omega, by simp [comT], chain_osfit (by omega)⟩
end Go.Proofs.YtamdhaoglapnnaaGreatDoor
end
section
/- The walk of commit.Right, where it finds an insertion that may be. -/
namespace Go.Proofs.YtamdhaoglapnnaaGreatDoor
open Go.RowKit

def zeroOp : List Value := opCells ⟨0, false, ⟨false, zeros, 0⟩, 0⟩
theorem opCells_one (x : POp) : ∀ v ∈ opCells x, v.oneCell' = true := by
  intro v hv
  simp only [opCells, refCells, List.mem_cons, List.mem_append, List.mem_map, List.not_mem_nil, or_false] at hv
  rcases hv with rfl | rfl | (rfl | ⟨_, _, rfl⟩ | rfl) | rfl <;> rfl
theorem wpList_load_part_g {P : Program} {ops : Array Oper} {rest : List Oper} {op : Oper} {a : Act} {w : World} {Q : Exit → Act → World → Prop} (hw : Region.wanted op (yielded ops a.tmps) = true) (ty : TypeId) (x : Operand) (ho : op.op = .load ty x)
    (g o : Nat) (hx : a.eval x = .pointer (some ⟨g, o, none⟩)) (t : TypeId) (cs part r : List Value) (hg : Blk w g t cs) (hp : cs.drop o = part ++ r) (d : TypeDesc)
    (hu : P.underlying ty = some d) (hd : d.isRow = true) (hi : (P.info? ty).map (·.size) = some part.length)
    (h : wpList P ops Q rest (a.put op.dst (.agg part.toArray)) w) : wpList P ops Q (op :: rest) a w :=
  wpList_wanted hw fun _ hK => wp_load_mid ty x ho g o hx part d (fun j v hv => by have := blk_src hg o part r hp j v hv; rwa [addr_add] at this) hu hd hi (hK _ _ h)
/-- An operation's cells, one by one. -/
theorem op_cells {w : World} {g : Nat} {x : POp} (h : Blk w g 283 (opCells x)) (hx : OpFit x) : w.cell? ⟨g, 0, none⟩ = some (.int .i64 x.kind) ∧ w.cell? ⟨g, 1, none⟩ = some (.bool x.left) ∧ w.cell? ⟨g, 2, none⟩ = some (.bool x.at_.own) ∧ w.cell? ⟨g, 35, none⟩ = some (.int .i64 x.at_.n) ∧ w.cell? ⟨g, 36, none⟩ = some (B x.byte) := by
  simp only [h.cell]
  refine ⟨rfl, rfl, rfl, ?_, ?_⟩ <;> simp [opCells, refCells, hx.com]
theorem refSz {r : PRef} (hr : r.com.length = 32) : (Tryz.prog.info? 276).map (·.size) = some (refCells r).length := by
  have e : (refCells r).length = 34 := by simp [refCells, hr]
  have e2 : (Tryz.prog.info? 276).map (·.size) = some 34 := by kernel_rfl
  rw [e2, e]
theorem opSz {x : POp} (h : OpFit x) : (Tryz.prog.info? 283).map (·.size) = some (opCells x).length := by
  have e2 : (Tryz.prog.info? 283).map (·.size) = some 37 := by kernel_rfl
  rw [e2, opCells_len h]
set_option maxRecDepth 100000 in
set_option maxHeartbeats 1000000 in
theorem right_ins (l : List POp) (v : Value) (ok : Nat → Prop) (k : Nat) (x : POp) (w : World) (h : OpsIs w ok v l) (hf : OsFit l) (hk : k < l.length) (hx : l[k] = x) (hkind : x.kind = 1) (hleft : x.left = false) (href : refOk x.at_ = true)
    (hown : x.at_.own = true → ∃ (m : Nat) (hm : m < k), x.at_.n = (m : Int) + 1 ∧ (l[m]'(Nat.lt_trans hm hk)).kind = 1) :
    Calls Tryz.prog 270 #[v, .int .i64 ((k : Int) + 1)] w fun e w' => e = .returned (.int .i64 0) ∧ Below w.heap.size w w' := by
  have hH := Lib.hid h
  have hxf : OpFit x := by rw [← hx]; exact hf.ok _ (List.getElem_mem hk)
  have hlen : l.length ≤ 1759218604441 := hf.len
  obtain ⟨A, c, rfl, hc, hr⟩ := h
  obtain ⟨b, o, rfl, hob, hlt, hcell⟩ := hH.out.op hf.ok k hk
  rw [hx] at hcell
  have hsx := Lib.hid (opSz hxf)
  have hsr := Lib.hid (refSz hxf.com)
  replace hcell := Lib.hid hcell
  replace hx := Lib.hid hx
  replace hf := Lib.hid hf
  replace hxf := Lib.hid hxf
  clear hr hc
  have e1 : IntKind.i64.wrap ((k : Int) + 1 - 1) = (k : Int) := by rw [show (k : Int) + 1 - 1 = k by omega]; exact IntWalk.i64_in _ (by omega)
  have g1 : decide ((k : Int) + 1 < 1) = false := decide_eq_false (by omega)
  have g2 : decide ((l.length : Int) < (k : Int) + 1) = false := decide_eq_false (by omega)
  have i1 : (0 : Int) ≤ (k : Int) := by omega
  have i2 : (k : Int) < (l.length : Int) := by omega
  go_enter Tryz.func270, Tryz.ntmps270
  go_wp2_with (first
    | (refine wpList_load_mid rfl 283 (.tmp 17) rfl b (o + k * 37) rfl (opCells x) _ (fun j v hv => hcell.out j v hv) Tryz.underlying283 rfl hsx.out ?_)
    | (refine wpList_store_blk rfl 283 (.tmp 5) (.tmp 18) rfl w.heap.size (opCells x) rfl rfl 283 zeroOp (Blk.new_at rfl) (by rw [opCells_len hxf.out]; rfl) hsx.out (opCells_one x) ?_
       generalize hw1 : World.setRow _ w.heap.size (opCells x).toArray = w1
       have hB : Blk w1 w.heap.size 283 (opCells x) := by
         rw [← hw1]
         exact (Blk.new_at (w := w) (t := 283) (cs := zeroOp) rfl).setRow_same (opCells x)
       have hb : Below w.heap.size w w1 := by
         rw [← hw1]
         exact below_setRow ((Below.refl w.heap.size w).alloc (Nat.le_refl _) (.cells zeroOp.toArray 283)) (Nat.le_refl _) (opCells x).toArray
       clear hw1
       replace hB := Lib.hid hB
       replace hb := Lib.hid hb
       go_frame)
    | (refine wpList_load_part rfl 276 (.tmp 19) rfl w.heap.size 2 rfl 283 (opCells x) (refCells x.at_) [B x.byte] hB.out rfl _ Tryz.underlying276 rfl hsr.out ?_)
    | fail)
  refine (refc_any x.at_ hxf.out.com hxf.out.n0 hxf.out.n1 w1).mono ?_
  rintro e W ⟨rfl, hbW⟩
  have hB' : Blk W w.heap.size 283 (opCells x) := hB.out.below hbW hB.out.lt
  have hb' := hb.out.trans (hbW.mono hb.out.size)
  obtain ⟨c0, c1, c2, c35, c36⟩ := op_cells hB' hxf.out
  replace hB' := Lib.hid hB'
  replace hb' := Lib.hid hb'
  clear hbW hB hb
  rw [href]
  rw [hkind] at c0
  rw [hleft] at c1
  cases ho : x.at_.own with
  | false =>
    rw [ho] at c2
    go_wp2
    go_ret
    exact ⟨rfl, hb'.out⟩
  | true =>
    rw [ho] at c2
    obtain ⟨m, hm, hn, hmk⟩ := hown ho
    rw [hn] at c35
    have hml : m < l.length := Nat.lt_trans hm hk
    obtain ⟨b', o', hA, _, _, hc'⟩ := hH.out.op hf.out.ok m hml
    cases hA
    have ck : W.cell? ⟨b, o + m * 37, none⟩ = some (.int .i64 1) := by
      rw [hb'.out.cell (p := ⟨b, o + m * 37, none⟩) hlt]
      have := hc' 0 (.int .i64 l[m].kind) rfl
      rw [hmk] at this
      simpa using this
    clear hc'
    have j1 : (0 : Int) ≤ (m : Int) := by omega
    have j2 : (m : Int) < (l.length : Int) := by omega
    have j3 : decide ((k : Int) ≤ (m : Int)) = false := decide_eq_false (by omega)
    go_wp2_with fail
    go_ret
    exact ⟨rfl, hb'.out⟩
/-- The chain's operations are right. -/
theorem right_chain (t : Str) (v : Value) (ok : Nat → Prop) (k : Nat) (w : World) (h : OpsIs w ok v (chain t)) (ht : t.length ≤ 2000) (hk : k < t.length) :
    Calls Tryz.prog 270 #[v, .int .i64 ((k : Int) + 1)] w fun e w' => e = .returned (.int .i64 0) ∧ Below w.heap.size w w' := by
  have hl : (chain t).length = t.length := chain_len t 0
  have hat : ∀ (i : Nat) (hi : i < t.length), (chain t)[i]'(by rw [hl]; exact hi) = insOp i t[i] := fun i hi => by
    have := chain_at t 0 i hi
    rw [Nat.zero_add] at this
    exact Option.some.inj ((List.getElem?_eq_getElem (by rw [hl]; exact hi)).symm.trans this)
  refine right_ins (chain t) v ok k (insOp k t[k]) w h (chain_osfit (by omega)) (by omega) (hat k hk) rfl rfl (refOk_at k) ?_
  intro ho
  have hk0 : k ≠ 0 := by
    intro e
    have ho' : (atRef k).own = true := ho
    rw [atRef_own] at ho'
    simp [e] at ho'
  refine ⟨k - 1, by omega, ?_, ?_⟩
  · show (atRef k).n = _
    rw [atRef_n]
    omega
  · rw [hat (k - 1) (by omega)]
    rfl
end Go.Proofs.YtamdhaoglapnnaaGreatDoor
end
