/- Joined: RfT, RfU, RfV. -/
import Derived.Test.YtlenmkemjaaaoaaDoorRjQS
import Derived.Lib.AppendZerosOnto
import Derived.Lib.AppendZeros
import Derived.Lib.Overlaps
section
/- Rows of branches that are cut, cleared and copied; the walk of slices.Delete. -/
namespace Go.Proofs.YtlenmkemjaaaoaaDoor
open Go.RowKit

section
variable {P : Program} (w : World)
theorem run_slice3 (t elem : TypeId) (s : Nat) (hu : P.underlying t = some (.slice elem)) (hs : (P.info? elem).map (·.size) = some s) (A : Option Addr) (n cap k j m : Nat) (hk : k ≤ j) (hj : j ≤ m) (hm : m ≤ cap) :
    (Instr.sliceAt t (.slice A n cap) (some (.int .i64 (k : Int))) (some (.int .i64 (j : Int))) (some (.int .i64 (m : Int)))).run P w = .ok (.slice (cutA A m k s) (j - k) (m - k)) w := by
  cases hq : P.info? elem with
  | none => simp [hq] at hs
  | some i =>
    have hi : i.size = s := by simpa [hq] using hs
    simp [Instr.sliceAt, Instr.slice, run_underlying hu, Instr.sliceBounds, run_sliceBound, sizeOf, typeInfo, hq, hi, hk, hj, hm, cutA]
theorem run_slice_to (t elem : TypeId) (s : Nat) (hu : P.underlying t = some (.slice elem)) (hs : (P.info? elem).map (·.size) = some s) (A : Option Addr) (n cap j : Nat) (hj : j ≤ cap) :
    (Instr.sliceAt t (.slice A n cap) none (some (.int .i64 (j : Int))) none).run P w = .ok (.slice A j cap) w := by
  cases hq : P.info? elem with
  | none => simp [hq] at hs
  | some i =>
    have ha : ∀ a : Addr, a.add 0 = a := fun a => by unfold Addr.add; simp
    cases A <;> simp [Instr.sliceAt, Instr.slice, run_underlying hu, Instr.sliceBounds, run_sliceBound, sizeOf, typeInfo, hq, hj, ha]
/-- copy between rows, elements of any size. -/
theorem run_copy_any (dT sT ty elem : TypeId) (s : Nat) (g o dLen dCap : Nat) (a : Addr) (sLen sCap : Nat) (cur : List Value) (t : TypeId) (cs : List Value)
    (hu : P.underlying dT = some (.slice elem)) (hs : (P.info? elem).map (·.size) = some s)
    (hg : Blk w g t cur) (hn : cs.length = Nat.min sLen dLen * s)
    (hsrc : ∀ j v, cs[j]? = some v → w.cell? (a.add j) = some v) (hfit : o + cs.length ≤ cur.length) (h1 : ∀ v ∈ cs, v.oneCell' = true) :
    (Builtin.copy_ #[dT, sT] ty #[.slice (some ⟨g, o, none⟩) dLen dCap, .slice (some a) sLen sCap]).run P w =
      .ok (goInt (Nat.min sLen dLen)) (w.setRow g (splice cur o cs).toArray) := by
  have hl := run_loadCells_list (P := P) w a cs hsrc
  have hst := run_storeCells_at P g o t cs 0 cur.toArray w hg (by simpa using hfit) h1
  cases hq : P.info? elem with
  | none => simp [hq] at hs
  | some i =>
    have hi : i.size = s := by simpa [hq] using hs
    simp only [Nat.add_zero] at hst
    simp [Builtin.copy_, run_underlying hu, Builtin.lenOf, Builtin.firstCells, sizeOf, typeInfo, hq, hi, ← hn, hl, hst, splice]
end
theorem run_clear_one (w : World) (ty : TypeId) (g o c : Nat) (cur : List Value) (hg : Blk w g 61 cur) (hfit : o + 2 ≤ cur.length) :
    (Builtin.clear_ #[22] ty #[.slice (some ⟨g, o, none⟩) 1 c]).run Tryd.prog w = .ok (.tuple #[]) (w.setRow g (splice cur o zeroBr).toArray) := by
  have hst := run_storeCells_at Tryd.prog g o 61 zeroBr 0 cur.toArray w hg (by simpa [zeroBr] using hfit) (by simp [zeroBr, Value.oneCell'])
  simp only [Nat.add_zero] at hst
  have hz : (Builtin.zeroCells (Value.agg #[.string ⟨#[]⟩, .slice none 0 0]).cells 1).toList = zeroBr := by kernel_rfl
  simp [Builtin.clear_, run_underlying Tryd.underlying22, hz, hst, splice]
/-- A row of branches in one's own block. -/
theorem row_blk {w : World} {base : Nat} {v : Value} {n : Nat} {xs : List Value} (h : w.ownsRow base 61 2 v n xs) (hn : 0 < n) :
    ∃ g cap cur, v = .slice (some ⟨g, 0, none⟩) n cap ∧ base ≤ g ∧ Blk w g 61 cur ∧ n ≤ cap ∧ cap ≤ maxLen ∧ cur.length = cap * 2 ∧ cur.take (n * 2) = xs := by
  rcases h.2 with ⟨_, h0⟩ | ⟨g, cap, cur, rfl, hb, hg, h1, h2, h3, h4⟩
  · omega
  · exact ⟨g, cap, cur.toList, rfl, hb, by unfold Blk; simpa using hg, h1, h2, by simpa using h3, h4⟩
theorem blk_row {w : World} {base g cap n : Nat} {cur xs : List Value} (hb : base ≤ g) (hg : Blk w g 61 cur) (h1 : n ≤ cap) (h2 : cap ≤ maxLen) (h3 : cur.length = cap * 2) (h4 : cur.take (n * 2) = xs) :
    w.ownsRow base 61 2 (.slice (some ⟨g, 0, none⟩) n cap) n xs :=
  ⟨by rw [← h4, List.length_take, h3]; omega, .inr ⟨g, cap, cur.toArray, rfl, hb, hg, h1, h2, by simpa using h3, by simpa using h4⟩⟩
def RowTo (w : World) (base : Nat) (v : Value) (n : Nat) (xs : List Value) (e : Ending) (w' : World) : Prop :=
  ∃ v', e = .returned v' ∧ w'.ownsRow base 61 2 v' n xs ∧ w.grownBy w' v.ownBlock ∧ (v'.ownBlock = v.ownBlock ∨ ∀ b, v'.ownBlock = some b → w.heap.size ≤ b)
theorem grown_row {w : World} {g : Nat} (c : Array Value) : w.grownBy (w.setRow g c) (some g) := ⟨rfl, rfl, rfl, by simp [World.setRow], fun k _ hne => setRow_other _ _ _ _ (fun e => hne (by rw [e]))⟩
theorem grown_tr {w w1 w2 : World} {r : Option Nat} (h1 : w.grownBy w1 r) (h2 : w1.grownBy w2 r) : w.grownBy w2 r :=
  ⟨h2.os.trans h1.os, h2.tape.trans h1.tape, h2.output.trans h1.output, Nat.le_trans h1.size h2.size, fun k hk hne => (h2.block k (Nat.lt_of_lt_of_le hk h1.size) hne).trans (h1.block k hk hne)⟩
theorem brInfoI : ∃ i, Tryd.prog.info? 61 = some i ∧ i.size = 2 := by
  have h := brSz
  cases hq : Tryd.prog.info? 61 with
  | none => simp [hq] at h
  | some i => exact ⟨i, rfl, by simpa [hq] using h⟩
set_option maxRecDepth 100000 in
set_option maxHeartbeats 4000000 in
theorem delete_any (base : Nat) (v : Value) (n i : Nat) (xs : List Value) (w : World) (ho : w.ownsRow base 61 2 v n xs) (hi : i < n) (hn : n ≤ 4398046511104) (h1 : ∀ u ∈ xs, u.oneCell' = true) :
    Calls Tryd.prog 50 #[v, .int .i64 i, .int .i64 ((i : Int) + 1)] w (RowTo w base v (n - 1) (xs.take (i * 2) ++ xs.drop ((i + 1) * 2))) := by
  obtain ⟨g, cap, cur, rfl, hbg, hB, hc1, hc2, hcl, hct⟩ := row_blk ho (by omega)
  obtain ⟨inf, hinf, hinfs⟩ := brInfoI
  have e1 : ((i + 1 : Nat) : Int) = (i : Int) + 1 := rfl
  have s1 := fun w => run_slice3 (P := Tryd.prog) w 22 61 2 Tryd.underlying22 brSz (some ⟨g, 0, none⟩) n cap i (i + 1) n (by omega) (by omega) hc1
  have s2 := fun w => run_slice_to (P := Tryd.prog) w 22 61 2 Tryd.underlying22 brSz (some ⟨g, 0, none⟩) n cap i (by omega)
  have s3 := fun w => run_sliceAt_from (P := Tryd.prog) w 22 61 2 Tryd.underlying22 brSz (some ⟨g, 0, none⟩) n cap (i + 1) (by omega)
  have s4 := fun w => run_sliceAt_mid (P := Tryd.prog) w 22 61 2 Tryd.underlying22 brSz (some ⟨g, 0, none⟩) (n - 1) cap (n - 1) n (by omega) hc1
  have ec : cutA (some ⟨g, 0, none⟩) cap (n - 1) 2 = some ⟨g, (n - 1) * 2, none⟩ := by
    unfold cutA
    rw [if_neg (by omega)]
    simp [addr_add]
  rw [ec, show n - (n - 1) = 1 by omega] at s4
  rw [e1] at s1 s3
  have hne : ((i : Int) == (i : Int) + 1) = false := by rw [beq_eq_false_iff_ne]; omega
  have hn0 : 0 < n := by omega
  replace s1 := Lib.hid s1
  replace s2 := Lib.hid s2
  clear s3
  replace s4 := Lib.hid s4
  have hpre : w.ownsRow base 61 2 (.slice (some ⟨g, 0, none⟩) i cap) i (xs.take (i * 2)) := blk_row hbg hB (by omega) hc2 hcl (by rw [← hct, List.take_take]; congr 1; omega)
  have hxl : xs.length = n * 2 := ho.1
  have hnews : (xs.drop ((i + 1) * 2)).length = (n - (i + 1)) * 2 := by rw [List.length_drop, hxl]; omega
  have hsrc : ∀ ad, (if cap = i + 1 then some (⟨g, 0, none⟩ : Addr) else some ⟨g, (i + 1) * 2, none⟩) = some ad → ∀ j u, (xs.drop ((i + 1) * 2))[j]? = some u → w.cell? (ad.add j) = some u := fun ad had j u hu => by
    have hj : j < (xs.drop ((i + 1) * 2)).length := (List.getElem?_eq_some_iff.1 hu).1
    rw [if_neg (by omega)] at had
    simp only [Option.some.injEq] at had
    subst had
    rw [addr_add, hB.cell]
    rw [List.getElem?_drop] at hu
    rw [← hct, List.getElem?_take_of_lt (by omega)] at hu
    exact hu
  have hnone : (if cap = i + 1 then some (⟨g, 0, none⟩ : Addr) else some ⟨g, (i + 1) * 2, none⟩) = none → n - (i + 1) = 0 ∧ cap - (i + 1) = 0 := fun h => by
    split at h <;> cases h
  have hone : Hid (∀ u ∈ xs.drop ((i + 1) * 2), u.oneCell' = true) := Lib.hid (fun u hu => h1 u (List.mem_of_mem_drop hu))
  replace hpre := Lib.hid hpre
  replace hnews := Lib.hid hnews
  replace hsrc := Lib.hid hsrc
  replace hnone := Lib.hid hnone
  replace hct := Lib.hid hct
  replace hcl := Lib.hid hcl
  replace hxl := Lib.hid hxl
  replace hinf := Lib.hid hinf
  replace hinfs := Lib.hid hinfs
  have i1 : (0 : Int) ≤ (i : Int) := by omega
  clear h1 ec e1
  have hs1 := s1.out
  have hs4 := s4.out
  go_enter Tryd.func50, Tryd.ntmps50
  go_wp2_with fail
  refine quiet_tail 6 (by kernel_rfl) (by kernel_rfl) ?_
  simp only [List.take_succ_cons, List.take_zero, List.drop_succ_cons, List.drop_zero]
  repeat (first
    | (refine wpQuiet_run (Op.slice 22 (.tmp 20) none (some (.tmp 21)) none) rfl rfl (.slice (some ⟨g, 0, none⟩) i cap) (fun w _ => ?_) ?_
       · have e0 : ∀ k : Nat, k = k := fun _ => rfl
         exact (congrArg (fun r => Result.andThen r _) (s2.out w))
       go_frame)
    | go_big_quiet_step (fail))
  refine wpQuiet_nil ?_
  rintro _ ⟨nq, rfl⟩
  refine wpList_append_fits_any (w.drewN nq) rfl (.tmp 22) (.tmp 25) 22 rfl base 61 inf 2 Tryd.underlying22 hinf.out hinfs.out g i cap (xs.take (i * 2)) rfl hpre.out (if cap = i + 1 then some (⟨g, 0, none⟩ : Addr) else some ⟨g, (i + 1) * 2, none⟩) (n - (i + 1)) (cap - (i + 1)) (xs.drop ((i + 1) * 2)) rfl hnews.out hnone.out hsrc.out hone.out (by omega) ?_
  intro w2 hrow2 hg2
  have en : i + (n - (i + 1)) = n - 1 := by omega
  rw [en] at hrow2 ⊢
  generalize (if cap = i + 1 then some (⟨g, 0, none⟩ : Addr) else some ⟨g, (i + 1) * 2, none⟩) = AA
  have hg3 : w.grownBy w2 (some g) := ⟨hg2.os, hg2.tape, hg2.output, hg2.size, hg2.block⟩
  have hrow3 : ∃ cur2, Blk w2 g 61 cur2 ∧ cur2.length = cap * 2 ∧ cur2.take ((n - 1) * 2) = xs.take (i * 2) ++ xs.drop ((i + 1) * 2) := by
    rcases hrow2.2 with ⟨h, _⟩ | ⟨g', cap', cur', h, _, hg, _, _, h3, h4⟩
    · cases h
    · injection h with ha hb hc
      injection ha with ha
      injection ha with ha
      subst ha; subst hc
      exact ⟨cur'.toList, by unfold Blk; simpa using hg, by simpa using h3, h4⟩
  obtain ⟨cur2, hB2, hl2, ht2⟩ := hrow3
  have hclr := fun ty => run_clear_one w2 ty g ((n - 1) * 2) (cap - (n - 1)) cur2 hB2 (by rw [hl2]; omega)
  replace hB2 := Lib.hid hB2
  replace hl2 := Lib.hid hl2
  replace ht2 := Lib.hid ht2
  replace hg3 := Lib.hid hg3
  clear hrow2 hg2 en hpre hsrc hnone hnews hs1
  go_wp2
  go_ret
  refine ⟨_, rfl, ?_, ?_, .inl rfl⟩
  · refine blk_row hbg (hB2.out.setRow_same _) (by omega) hc2 ?_ ?_
    · have hz : zeroBr.length = 2 := rfl
      have := hl2.out
      simp only [splice, List.length_append, List.length_take, List.length_drop, hz]; omega
    · have hlt : (cur2.take ((n - 1) * 2)).length = (n - 1) * 2 := by rw [List.length_take, hl2.out]; omega
      unfold splice
      rw [List.take_append_of_le_length (by rw [hlt]; exact Nat.le_refl _), List.take_take, Nat.min_self]
      exact ht2.out
  · exact grown_tr hg3.out (grown_row _)
end Go.Proofs.YtlenmkemjaaaoaaDoor
end

section
/- The walk of slices.Insert: one branch. -/
namespace Go.Proofs.YtlenmkemjaaaoaaDoor
open Go.RowKit

section
variable {α : Type}
theorem splice_at (A B C : List α) : splice (A ++ B) A.length C = A ++ (C ++ B.drop C.length) := by
  unfold splice
  rw [List.take_left, ← List.drop_drop, List.drop_left]
theorem splice_two (c S : List α) (a b : α) (o : Nat) (h : o + 2 ≤ c.length) : splice (splice c (o + 2) S) o [a, b] = c.take o ++ ([a, b] ++ (S ++ c.drop (o + 2 + S.length))) := by
  have h1 : (c.take (o + 2)).length = o + 2 := by rw [List.length_take]; omega
  unfold splice
  have e1 : (c.take (o + 2) ++ (S ++ c.drop (o + 2 + S.length))).take o = c.take o := by
    rw [List.take_append_of_le_length (by omega), List.take_take]; congr 1; omega
  have e2 : (c.take (o + 2) ++ (S ++ c.drop (o + 2 + S.length))).drop (o + [a, b].length) = S ++ c.drop (o + 2 + S.length) := by
    have : o + [a, b].length = (c.take (o + 2)).length := by rw [h1]; rfl
    rw [this, List.drop_left]
  rw [e1, e2]
end
/-- copy(d, s) between rows, elements of any size. -/
theorem wpList_copy_any {P : Program} {w : World} {ops : Array Oper} {rest : List Oper} {o : Oper} {a : Act} {Q : Exit → Act → World → Prop} (hgd : o.guard = none) (d s : Operand) (dT sT : TypeId)
    (ho : o.op = .call { callee := .builtin .copy, args := #[d, s], argTypes := #[dT, sT] }) (elem : TypeId) (size : Nat) (hu : P.underlying dT = some (.slice elem)) (hsz : (P.info? elem).map (·.size) = some size)
    (g off dLen dCap : Nat) (ad : Addr) (sLen sCap : Nat) (hd : a.eval d = .slice (some ⟨g, off, none⟩) dLen dCap) (hs : a.eval s = .slice (some ad) sLen sCap)
    (cur : List Value) (t : TypeId) (hg : Blk w g t cur) (cs : List Value) (hn : cs.length = Nat.min sLen dLen * size)
    (hsrc : ∀ j v, cs[j]? = some v → w.cell? (ad.add j) = some v) (hfit : off + cs.length ≤ cur.length) (h1 : ∀ v ∈ cs, v.oneCell' = true)
    (h : wpList P ops Q rest (a.put o.dst (goInt (Nat.min sLen dLen))) (w.setRow g (splice cur off cs).toArray)) : wpList P ops Q (o :: rest) a w := by
  refine wpList_plain hgd fun _ hK => ?_
  have hrun := run_copy_any (P := P) w dT sT o.type elem size g off dLen dCap ad sLen sCap cur t cs hu hsz hg hn hsrc hfit h1
  unfold Oper.wp execOp
  simp only [ho, resolve, invoke, builtin, Sem.run_bind, Sem.run_pure, Result.andThen_ok, List.map_toArray, List.map_cons, List.map_nil, hd, hs, hrun]
  exact hK _ _ h
theorem setRow_grown' (w : World) (n g : Nat) (c : Array Value) : w.grownBy ((w.drewN n).setRow g c) (some g) :=
  ⟨rfl, rfl, rfl, by simp, fun k _ hne => setRow_other _ _ _ _ (fun e => hne (by rw [e]))⟩
set_option maxRecDepth 100000 in
set_option maxHeartbeats 4000000 in
theorem insert_end (base : Nat) (v : Value) (n : Nat) (xs : List Value) (gx : Nat) (a b : Value) (w : World) (ho : w.ownsRow base 61 2 v n xs) (hn : n ≤ 2199023255552)
    (hx : Blk w gx 61 [a, b]) (ha : a.oneCell' = true) (hb : b.oneCell' = true) (hbase : base ≤ w.heap.size) :
    Calls Tryd.prog 51 #[v, .int .i64 n, .slice (some ⟨gx, 0, none⟩) 1 1] w (RowTo w base v (n + 1) (xs ++ [a, b])) := by
  obtain ⟨A, cap, rfl, hc1, hc2⟩ := own_form ho
  have hs1 := fun w => run_sliceAt_from (P := Tryd.prog) w 22 61 2 Tryd.underlying22 brSz A n cap n (by omega)
  have hrd : Hid (Rd w (fun _ => True) (some ⟨gx, 0, none⟩) [a, b]) := Lib.hid (Rd.of_blk (r := []) hx rfl trivial)
  have hone : Hid (∀ u ∈ [a, b], u.oneCell' = true) := Lib.hid (by simp [ha, hb])
  have hnb : (n + 1) * 40 ≤ 140737488355328 := by omega
  replace ho := Lib.hid ho
  clear hx ha hb
  go_enter Tryd.func51, Tryd.ntmps51
  go_wp2_with (at_builtin; refine wpList_append_rd _ rfl (.tmp 23) (.tmp 24) 22 rfl base 61 (.agg zeroBr.toArray) 2 40 Tryd.underlying22 brInfo (.slice A n cap) n xs rfl ho.out (fun _ => True) (some ⟨gx, 0, none⟩) 1 1 [a, b] rfl rfl hrd.out hone.out (by unfold maxLen; omega) (by omega) hbase ?_; intro v' w2 hrow2 hg2 hv2; replace hrow2 := Lib.hid hrow2; replace hg2 := Lib.hid hg2; obtain ⟨VA, vc, rfl, _, _⟩ := own_form hrow2.out; go_frame)
  go_ret
  refine ⟨.slice VA (n + 1) vc, rfl, hrow2.out, hg2.out, ?_⟩
  rcases hv2 with h | h
  · exact .inl h
  · exact .inr (fun k hk => by rw [h] at hk; injection hk with hk; omega)
set_option maxRecDepth 100000 in
set_option maxHeartbeats 4000000 in
theorem insert_room (base n i : Nat) (g cap : Nat) (cur xs : List Value) (gx : Nat) (a b : Value) (w : World) (hbg : base ≤ g) (hB : Blk w g 61 cur) (hc1 : n + 1 ≤ cap) (hc2 : cap ≤ maxLen) (hcl : cur.length = cap * 2) (hct : cur.take (n * 2) = xs) (hn : n ≤ 2199023255552) (hi : i < n)
    (h1 : ∀ u ∈ xs, u.oneCell' = true) (hx : Blk w gx 61 [a, b]) (ha : a.oneCell' = true) (hb : b.oneCell' = true) (hne : gx ≠ g) :
    Calls Tryd.prog 51 #[.slice (some ⟨g, 0, none⟩) n cap, .int .i64 i, .slice (some ⟨gx, 0, none⟩) 1 1] w (RowTo w base (.slice (some ⟨g, 0, none⟩) n cap) (n + 1) (xs.take (i * 2) ++ [a, b] ++ xs.drop (i * 2))) := by
  have e1 : ((i + 1 : Nat) : Int) = (i : Int) + 1 := rfl
  have en : ((n + 1 : Nat) : Int) = (n : Int) + 1 := rfl
  have hs1 := fun w => run_sliceAt_from (P := Tryd.prog) w 22 61 2 Tryd.underlying22 brSz (some ⟨g, 0, none⟩) n cap i (by omega)
  have hs2 := fun w => run_slice_to (P := Tryd.prog) w 22 61 2 Tryd.underlying22 brSz (some ⟨g, 0, none⟩) n cap (n + 1) hc1
  have hs3 := fun w => run_sliceAt_from (P := Tryd.prog) w 22 61 2 Tryd.underlying22 brSz (some ⟨g, 0, none⟩) (n + 1) cap (i + 1) (by omega)
  have hs4 := fun w => run_sliceAt_from (P := Tryd.prog) w 22 61 2 Tryd.underlying22 brSz (some ⟨g, 0, none⟩) (n + 1) cap i (by omega)
  have ec : ∀ k, k < cap → cutA (some ⟨g, 0, none⟩) cap k 2 = some ⟨g, k * 2, none⟩ := fun k hk => by
    unfold cutA
    rw [if_neg (by omega)]
    simp [addr_add]
  rw [en] at hs2
  rw [e1, ec _ (by omega)] at hs3
  rw [ec _ (by omega)] at hs1 hs4
  have hov : Hid ((Extern.SlicesOverlaps.overlaps #[22, 22] #[4] #[.slice (some ⟨gx, 0, none⟩) 1 1, .slice (some ⟨g, (i + 1) * 2, none⟩) (n + 1 - (i + 1)) (cap - (i + 1))]).run Tryd.prog w = .ok (.bool false) w) := Lib.hid (by
    refine Lib.run_overlaps_apart w _ _ 61 Tryd.underlying22 2 (fun w => by kernel_rfl) _ _ _ _ _ _ hne 61 61 2 (cap * 2) ?_ ?_ (by omega) ?_ ?_
    · unfold Blk at hx; simp [World.shape?, hx]
    · unfold Blk at hB; simp [World.shape?, hB, hcl]
    · exact hx.frozen 0
    · exact hx.frozen 2)
  rw [show n + 1 - (i + 1) = n - i by omega] at hov hs3
  have d1 : decide (1 ≤ (cap : Int) - (n : Int)) = true := by simp; omega
  have hgt : decide ((cap : Int) < (n : Int) + 1) = false := decide_eq_false (by omega)
  have hne2 : ((i : Int) == (n : Int)) = false := by rw [beq_eq_false_iff_ne]; omega
  obtain ⟨ys, hys⟩ : ∃ ys, ys = xs.take (i * 2) ++ [a, b] ++ xs.drop (i * 2) := ⟨_, rfl⟩
  rw [← hys]
  clear ec e1 en
  have hxl : xs.length = n * 2 := by rw [← hct, List.length_take, hcl]; omega
  have hS : (xs.drop (i * 2)).length = (n - i) * 2 := by rw [List.length_drop, hxl]; omega
  have hsrc : ∀ j v, (xs.drop (i * 2))[j]? = some v → w.cell? ((⟨g, i * 2, none⟩ : Addr).add j) = some v := fun j v hv => by
    have hj := (List.getElem?_eq_some_iff.1 hv).1
    rw [addr_add, hB.cell]
    rw [List.getElem?_drop, ← hct, List.getElem?_take_of_lt (by omega)] at hv
    exact hv
  have hfin : Hid ((splice (splice cur ((i + 1) * 2) (xs.drop (i * 2))) (i * 2) [a, b]).length = cap * 2 ∧ (splice (splice cur ((i + 1) * 2) (xs.drop (i * 2))) (i * 2) [a, b]).take ((n + 1) * 2) = ys) := Lib.hid (by
    have e := splice_two cur (xs.drop (i * 2)) a b (i * 2) (by omega)
    rw [show i * 2 + 2 = (i + 1) * 2 by omega] at e
    rw [e]
    have e2 : cur.take (i * 2) = xs.take (i * 2) := by rw [← hct, List.take_take]; congr 1; omega
    refine ⟨by simp only [List.length_append, List.length_take, List.length_drop, List.length_cons, List.length_nil, hcl, hxl]; omega, ?_⟩
    rw [e2, hys, ← List.append_assoc, ← List.append_assoc]
    rw [List.take_left' (by simp only [List.length_append, List.length_take, List.length_drop, List.length_cons, List.length_nil, hxl]; omega)])
  have hone1 : Hid (∀ u ∈ xs.drop (i * 2), u.oneCell' = true) := Lib.hid (fun u hu => h1 u (List.mem_of_mem_drop hu))
  have hone2 : Hid (∀ u ∈ [a, b], u.oneCell' = true) := Lib.hid (by simp [ha, hb])
  obtain ⟨S, hSS⟩ : ∃ S, S = xs.drop (i * 2) := ⟨_, rfl⟩
  rw [← hSS] at hS hsrc hfin hone1
  have hB1 : Hid (∀ nq, Blk ((w.drewN nq).setRow g (splice cur ((i + 1) * 2) S).toArray) g 61 (splice cur ((i + 1) * 2) S)) := Lib.hid (fun nq => (hB.drewN nq).setRow_same _)
  have hX1 : Hid (∀ nq, Blk ((w.drewN nq).setRow g (splice cur ((i + 1) * 2) S).toArray) gx 61 [a, b]) := Lib.hid (fun nq => (hx.drewN nq).setRow_far hne _)
  have hlen1 : Hid ((splice cur ((i + 1) * 2) S).length = cap * 2) := Lib.hid (by
    simp only [splice, List.length_append, List.length_take, List.length_drop, hcl, hS]; omega)
  replace hS := Lib.hid hS
  replace hsrc := Lib.hid hsrc
  replace hB := Lib.hid hB
  replace hcl := Lib.hid hcl
  clear hys hSS h1 ha hb hx hct hxl
  have i1 : (0 : Int) ≤ (i : Int) := by omega
  go_enter Tryd.func51, Tryd.ntmps51
  go_wp2_with fail
  rw [run_callFunc_extern Tryd.func80 (by kernel_rfl) (by kernel_rfl) (by kernel_rfl) (e := Extern.SlicesOverlaps.overlaps #[22, 22] #[4]) (by kernel_rfl)]
  rw [hov.out]
  simp only [Result.andThen]
  rw [Oper.upon_value]
  go_wp2_with fail
  refine quiet_tail 8 (by kernel_rfl) (by kernel_rfl) ?_
  simp only [List.take_succ_cons, List.take_zero, List.drop_succ_cons, List.drop_zero]
  repeat (first
    | (refine wpQuiet_run (Op.slice 22 (.tmp 69) (some (.tmp 72)) none none) rfl rfl (.slice (some ⟨g, (i + 1) * 2, none⟩) (n - i) (cap - (i + 1))) (fun w _ => ?_) ?_
       · exact (congrArg (fun r => Result.andThen r _) (hs3 w))
       go_frame)
    | (refine wpQuiet_run (Op.slice 22 (.tmp 74) (some (.tmp 75)) none none) rfl rfl (.slice (some ⟨g, i * 2, none⟩) (n + 1 - i) (cap - i)) (fun w _ => ?_) ?_
       · exact (congrArg (fun r => Result.andThen r _) (hs4 w))
       go_frame)
    | go_big_quiet_step (fail))
  refine wpQuiet_nil ?_
  rintro _ ⟨nq, rfl⟩
  refine wpList_copy_any rfl (.tmp 73) (.tmp 76) 22 22 rfl 61 2 Tryd.underlying22 brSz g ((i + 1) * 2) (n - i) (cap - (i + 1)) ⟨g, i * 2, none⟩ (n + 1 - i) (cap - i) rfl rfl cur 61 (hB.out.drewN nq) S (by rw [hS.out, show Nat.min (n + 1 - i) (n - i) = n - i from Nat.min_eq_right (by omega)]) hsrc.out (by rw [hS.out, hcl.out]; omega) hone1.out ?_
  have hB1' := hB1.out nq
  have hX1' := hX1.out nq
  have hgr : Hid (w.grownBy ((w.drewN nq).setRow g (splice cur ((i + 1) * 2) S).toArray) (some g)) := Lib.hid (setRow_grown' w nq g _)
  generalize (w.drewN nq).setRow g (splice cur ((i + 1) * 2) S).toArray = w2 at hB1' hX1' hgr ⊢
  obtain ⟨c1, hc1'⟩ : ∃ c1, c1 = splice cur ((i + 1) * 2) S := ⟨_, rfl⟩
  rw [← hc1'] at hB1' hfin
  have hl2 : Hid (c1.length = cap * 2) := Lib.hid (by rw [hc1']; exact hlen1.out)
  clear hB hsrc hov hS hs3 hc1' hB1 hX1 hlen1
  go_wp2_with (refine wpList_copy_any rfl (.tmp 80) (.tmp 81) 22 22 rfl 61 2 Tryd.underlying22 brSz g (i * 2) (n + 1 - i) (cap - i) ⟨gx, 0, none⟩ 1 1 rfl rfl c1 61 hB1' [a, b] (by rw [show Nat.min 1 (n + 1 - i) = 1 from Nat.min_eq_left (by omega)]; rfl) (blk_src hX1' 0 [a, b] [] rfl) (by rw [hl2.out]; simp; omega) hone2.out ?_)
  go_ret
  refine ⟨_, rfl, blk_row hbg (hB1'.setRow_same _) hc1 hc2 hfin.out.1 hfin.out.2, grown_tr hgr.out (grown_row _), .inl rfl⟩
end Go.Proofs.YtlenmkemjaaaoaaDoor
end

section
/- The walk of slices.Insert: where there is no room; whatever the room. -/
namespace Go.Proofs.YtlenmkemjaaaoaaDoor
open Go.RowKit

theorem brInfoAll : ∃ i, Tryd.prog.info? 61 = some i ∧ i.zero = some (.agg zeroBr.toArray) ∧ i.size = 2 ∧ i.bytes = 40 := by
  have h := brInfo.info
  cases hq : Tryd.prog.info? 61 with
  | none => simp [hq] at h
  | some i =>
    simp only [hq, Option.map_some, Option.some.injEq, Prod.mk.injEq] at h
    exact ⟨i, rfl, h.1, h.2.1, h.2.2⟩
/-- append(s[:i], make(S, n + 1 - i)...), where that is beyond the capacity. -/
theorem grow_zeros (w : World) (ty : TypeId) (g n i cap : Nat) (P : List Value) (hP : P.length = i * 2) (hc : ∀ j v, P[j]? = some v → w.cell? ((⟨g, 0, none⟩ : Addr).add j) = some v) (hi : i < n) (hcap : cap < n + 1) (hn : n ≤ 2199023255552) :
    ∃ nc Z W2, (Builtin.append_ #[22, 3] ty #[.slice (some ⟨g, 0, none⟩) i cap, .int .i64 ((n + 1 - i : Nat) : Int)]).run Tryd.prog w = .ok (.slice (some ⟨w.heap.size, 0, none⟩) (n + 1) nc) W2 ∧
      Blk W2 w.heap.size 61 (P ++ Z) ∧ (P ++ Z).length = nc * 2 ∧ n + 1 ≤ nc ∧ nc ≤ maxLen ∧ Below w.heap.size w W2 := by
  obtain ⟨inf, hi0, hz, hsz, hby⟩ := brInfoAll
  have hold : (Builtin.firstCells inf.size i (.slice (some ⟨g, 0, none⟩) i cap)).run Tryd.prog w.drew = .ok P.toArray w.drew := by
    have hl := run_loadCells_list (P := Tryd.prog) w.drew ⟨g, 0, none⟩ P hc
    simp only [Builtin.firstCells, hsz, ← hP]
    exact hl
  have hfit : Builtin.nextslicecap (i + (n + 1 - i)) cap * inf.bytes ≤ 281474976710656 := by rw [hby]; exact growslice_fits (by omega) (by omega)
  have hr := Lib.run_append_grow_zeros (P := Tryd.prog) w 22 3 ty 61 inf (.agg zeroBr.toArray) .i64 .i64 Tryd.underlying22 Tryd.underlying3 hi0 hz (some ⟨g, 0, none⟩) i cap P hold (n + 1 - i) (by omega) (by omega) (by omega) (by omega) (by rw [hby]; omega) hfit
  have en : i + (n + 1 - i) = n + 1 := by omega
  rw [en] at hr
  have hge := grownCap_ge w (n + 1) cap 61
  have hle := grownCap_le_maxLen w (n + 1) cap 61 (by unfold maxLen; omega)
  obtain ⟨nc, hnc⟩ : ∃ nc, nc = grownCap w (n + 1) cap 61 := ⟨_, rfl⟩
  rw [← hnc] at hr hge hle
  refine ⟨nc, (Builtin.zeroCells (Value.agg zeroBr.toArray).cells (n + 1 - i)).toList ++ (Builtin.zeroCells (Value.agg zeroBr.toArray).cells (nc - (n + 1))).toList, _, hr, ?_, ?_, hge, hle, ?_⟩
  · have := heap_alloc_new w.drew (.cells (P.toArray ++ Builtin.zeroCells (Value.agg zeroBr.toArray).cells (n + 1 - i) ++ Builtin.zeroCells (Value.agg zeroBr.toArray).cells (nc - (n + 1))) 61)
    unfold Blk
    rw [show w.drew.heap.size = w.heap.size from rfl] at this
    rw [this]
    simp
  · have e2 : (Value.agg zeroBr.toArray).cells.size = 2 := rfl
    simp only [List.length_append, Array.length_toList, size_zeroCells, hP, e2]
    omega
  · exact ((Below.refl w.heap.size w).drew).alloc (Nat.le_refl _) _
set_option maxRecDepth 100000 in
set_option maxHeartbeats 4000000 in
theorem insert_grow (base n i : Nat) (g cap : Nat) (cur xs : List Value) (gx : Nat) (a b : Value) (w : World) (hbase : base ≤ w.heap.size) (hB : Blk w g 61 cur) (hc0 : n ≤ cap) (hc1 : cap < n + 1) (hcl : cur.length = cap * 2) (hct : cur.take (n * 2) = xs) (hn : n ≤ 2199023255552) (hi : i < n)
    (h1 : ∀ u ∈ xs, u.oneCell' = true) (hx : Blk w gx 61 [a, b]) (ha : a.oneCell' = true) (hb : b.oneCell' = true) :
    Calls Tryd.prog 51 #[.slice (some ⟨g, 0, none⟩) n cap, .int .i64 i, .slice (some ⟨gx, 0, none⟩) 1 1] w (RowTo w base (.slice (some ⟨g, 0, none⟩) n cap) (n + 1) (xs.take (i * 2) ++ [a, b] ++ xs.drop (i * 2))) := by
  have e1 : ((i + 1 : Nat) : Int) = (i : Int) + 1 := rfl
  have hs1 := fun w => run_sliceAt_from (P := Tryd.prog) w 22 61 2 Tryd.underlying22 brSz (some ⟨g, 0, none⟩) n cap i (by omega)
  have hs2 := fun w => run_slice_to (P := Tryd.prog) w 22 61 2 Tryd.underlying22 brSz (some ⟨g, 0, none⟩) n cap i (by omega)
  have ec : ∀ g k c, k < c → cutA (some ⟨g, 0, none⟩) c k 2 = some ⟨g, k * 2, none⟩ := fun g k c hk => by
    unfold cutA
    rw [if_neg (by omega)]
    simp [addr_add]
  rw [ec _ _ _ (by omega)] at hs1
  have hxl : xs.length = n * 2 := by rw [← hct, List.length_take, hcl]; omega
  have hP : (xs.take (i * 2)).length = i * 2 := by rw [List.length_take, hxl]; omega
  have hS : (xs.drop (i * 2)).length = (n - i) * 2 := by rw [List.length_drop, hxl]; omega
  obtain ⟨ys, hys⟩ : ∃ ys, ys = xs.take (i * 2) ++ [a, b] ++ xs.drop (i * 2) := ⟨_, rfl⟩
  rw [← hys]
  have hPc : ∀ j v, (xs.take (i * 2))[j]? = some v → w.cell? ((⟨g, 0, none⟩ : Addr).add j) = some v := fun j v hv => by
    have hj := (List.getElem?_eq_some_iff.1 hv).1
    rw [addr_add, hB.cell, Nat.zero_add]
    rw [← hct, List.take_take] at hv
    rw [List.getElem?_take_of_lt (by omega)] at hv
    exact hv
  have hSc : ∀ j v, (xs.drop (i * 2))[j]? = some v → w.cell? ((⟨g, i * 2, none⟩ : Addr).add j) = some v := fun j v hv => by
    have hj := (List.getElem?_eq_some_iff.1 hv).1
    rw [addr_add, hB.cell]
    rw [List.getElem?_drop, ← hct, List.getElem?_take_of_lt (by omega)] at hv
    exact hv
  have hone1 : Hid (∀ u ∈ xs.drop (i * 2), u.oneCell' = true) := Lib.hid (fun u hu => h1 u (List.mem_of_mem_drop hu))
  have hone2 : Hid (∀ u ∈ [a, b], u.oneCell' = true) := Lib.hid (by simp [ha, hb])
  obtain ⟨nc, Z, W2, hrun, hN, hNl, hn1, hn2, hbl⟩ : ∃ nc Z W2, (∀ ty, (Builtin.append_ #[22, 3] ty #[.slice (some ⟨g, 0, none⟩) i cap, .int .i64 ((n + 1 - i : Nat) : Int)]).run Tryd.prog w = .ok (.slice (some ⟨w.heap.size, 0, none⟩) (n + 1) nc) W2) ∧
      Blk W2 w.heap.size 61 (xs.take (i * 2) ++ Z) ∧ (xs.take (i * 2) ++ Z).length = nc * 2 ∧ n + 1 ≤ nc ∧ nc ≤ maxLen ∧ Below w.heap.size w W2 := by
    obtain ⟨nc, Z, W2, h⟩ := grow_zeros w 0 g n i cap (xs.take (i * 2)) hP hPc hi hc1 hn
    exact ⟨nc, Z, W2, fun ty => h.1, h.2⟩
  obtain ⟨gn, hgn⟩ : ∃ gn, gn = w.heap.size := ⟨_, rfl⟩
  rw [← hgn] at hrun hN
  have hs3 := fun w => run_sliceAt_from (P := Tryd.prog) w 22 61 2 Tryd.underlying22 brSz (some ⟨gn, 0, none⟩) (n + 1) nc i (by omega)
  have hs4 := fun w => run_sliceAt_from (P := Tryd.prog) w 22 61 2 Tryd.underlying22 brSz (some ⟨gn, 0, none⟩) (n + 1) nc (i + 1) (by omega)
  rw [ec _ _ _ (by omega)] at hs3 hs4
  rw [e1, show n + 1 - (i + 1) = n - i by omega] at hs4
  have hX2 := hx.below hbl hx.lt
  have hgl : g < w.heap.size := hB.lt
  have hgxl : gx < w.heap.size := hx.lt
  obtain ⟨PP, hPP⟩ : ∃ PP, PP = xs.take (i * 2) := ⟨_, rfl⟩
  obtain ⟨S, hSS⟩ : ∃ S, S = xs.drop (i * 2) := ⟨_, rfl⟩
  rw [← hSS] at hS hSc hone1 hys
  rw [← hPP] at hP hN hNl hys
  have hc1e : splice (PP ++ Z) (i * 2) [a, b] = (PP ++ [a, b]) ++ Z.drop 2 := by
    rw [← hP, splice_at, ← List.append_assoc]; rfl
  have hPl : (PP ++ [a, b]).length = (i + 1) * 2 := by rw [List.length_append, hP]; simp; omega
  have hc2e : Hid ((splice (splice (PP ++ Z) (i * 2) [a, b]) ((i + 1) * 2) S).length = nc * 2 ∧ (splice (splice (PP ++ Z) (i * 2) [a, b]) ((i + 1) * 2) S).take ((n + 1) * 2) = ys) := Lib.hid (by
    rw [hc1e]
    have hZ : Z.length = nc * 2 - i * 2 := by rw [List.length_append, hP] at hNl; omega
    have e := splice_at (PP ++ [a, b]) (Z.drop 2) S
    rw [hPl] at e
    rw [e]
    refine ⟨by simp only [List.length_append, hPl, hS, List.length_drop, hZ]; omega, ?_⟩
    rw [hys, ← List.append_assoc, List.take_left' (by simp only [List.length_append, hS, hP, List.length_cons, List.length_nil]; omega)])
  have hSc2 : Hid (∀ W, Below w.heap.size w W → ∀ j v, S[j]? = some v → W.cell? ((⟨g, i * 2, none⟩ : Addr).add j) = some v) := Lib.hid (fun W hW j v hv => by
    rw [hW.cell (p := (⟨g, i * 2, none⟩ : Addr).add j) (by rw [block_add]; exact hgl)]; exact hSc j v hv)
  have hc1l : Hid ((splice (PP ++ Z) (i * 2) [a, b]).length = nc * 2) := Lib.hid (by
    have hZ : Z.length = nc * 2 - i * 2 := by rw [List.length_append, hP] at hNl; omega
    rw [hc1e, List.length_append, hPl, List.length_drop, hZ]; omega)
  have d1 : decide (1 ≤ (cap : Int) - (n : Int)) = false := by simp; omega
  have hgt : decide ((cap : Int) < (n : Int) + 1) = true := decide_eq_true (by omega)
  have hne2 : ((i : Int) == (n : Int)) = false := by rw [beq_eq_false_iff_ne]; omega
  have hsrcX : Hid (∀ j v, [a, b][j]? = some v → W2.cell? ((⟨gx, 0, none⟩ : Addr).add j) = some v) := Lib.hid (blk_src hX2 0 [a, b] [] rfl)
  replace hN := Lib.hid hN
  replace hNl := Lib.hid hNl
  replace hrun := Lib.hid hrun
  replace hbl := Lib.hid hbl
  replace hS := Lib.hid hS
  replace hgn := Lib.hid hgn
  clear hys hSS hPP h1 ha hb hx hct hxl hSc hPc hc1e hPl hP hX2 hB hcl ec e1
  have i1 : (0 : Int) ≤ (i : Int) := by omega
  go_enter Tryd.func51, Tryd.ntmps51
  go_wp2_with (first
    | (at_builtin; refine Lib.wpList_append_run _ rfl (.tmp 34) (.tmp 39) _ _ rfl (.slice (some ⟨g, 0, none⟩) i cap) (.int .i64 ((n + 1 - i : Nat) : Int)) rfl (congrArg (Value.int .i64) (by omega)) _ _ (hrun.out _) ?_; go_frame)
    | (refine wpList_copy_any rfl (.tmp 43) (.tmp 44) 22 22 rfl 61 2 Tryd.underlying22 brSz gn (i * 2) (n + 1 - i) (nc - i) ⟨gx, 0, none⟩ 1 1 rfl rfl (PP ++ Z) 61 hN.out [a, b] (by rw [show Nat.min 1 (n + 1 - i) = 1 from Nat.min_eq_left (by omega)]; rfl) hsrcX.out (by rw [hNl.out]; simp; omega) hone2.out ?_; go_frame))
  have hB3 : Hid (∀ nq, Blk ((W2.setRow gn (splice (PP ++ Z) (i * 2) [a, b]).toArray).drewN nq) gn 61 (splice (PP ++ Z) (i * 2) [a, b])) := Lib.hid (fun nq => (hN.out.setRow_same _).drewN nq)
  have hbl3 : Hid (∀ nq, Below w.heap.size w ((W2.setRow gn (splice (PP ++ Z) (i * 2) [a, b]).toArray).drewN nq)) := Lib.hid (fun nq => below_drewN (below_setRow hbl.out (by rw [hgn.out]; exact Nat.le_refl _) _) nq)
  refine quiet_tail 8 (by kernel_rfl) (by kernel_rfl) ?_
  simp only [List.take_succ_cons, List.take_zero, List.drop_succ_cons, List.drop_zero]
  repeat (first
    | (refine wpQuiet_run (Op.slice 22 (.tmp 46) (some (.tmp 49)) none none) rfl rfl (.slice (some ⟨gn, (i + 1) * 2, none⟩) (n - i) (nc - (i + 1))) (fun w _ => ?_) ?_
       · exact (congrArg (fun r => Result.andThen r _) (hs4 w))
       go_frame)
    | (refine wpQuiet_run (Op.slice 22 (.tmp 51) (some (.tmp 52)) none none) rfl rfl (.slice (some ⟨g, i * 2, none⟩) (n - i) (cap - i)) (fun w _ => ?_) ?_
       · exact (congrArg (fun r => Result.andThen r _) (hs1 w))
       go_frame)
    | go_big_quiet_step (fail))
  refine wpQuiet_nil ?_
  rintro _ ⟨nq, rfl⟩
  have hB4 := hB3.out nq
  have hbl4 := hbl3.out nq
  generalize (W2.setRow gn (splice (PP ++ Z) (i * 2) [a, b]).toArray).drewN nq = W4 at hB4 hbl4 ⊢
  refine wpList_copy_any rfl (.tmp 50) (.tmp 53) 22 22 rfl 61 2 Tryd.underlying22 brSz gn ((i + 1) * 2) (n - i) (nc - (i + 1)) ⟨g, i * 2, none⟩ (n - i) (cap - i) rfl rfl (splice (PP ++ Z) (i * 2) [a, b]) 61 hB4 S (by rw [hS.out, show Nat.min (n - i) (n - i) = n - i from Nat.min_self _]) (hSc2.out _ hbl4) (by rw [hS.out, hc1l.out]; omega) hone1.out ?_
  clear hB3 hbl3 hrun
  go_wp2
  go_ret
  refine ⟨.slice (some ⟨gn, 0, none⟩) (n + 1) nc, rfl, blk_row (by rw [hgn.out]; exact hbase) (hB4.setRow_same _) hn1 hn2 hc2e.out.1 hc2e.out.2, ?_, .inr (fun k hk => ?_)⟩
  · have hb5 := below_setRow hbl4 (by rw [hgn.out]; exact Nat.le_refl _) (splice (splice (PP ++ Z) (i * 2) [a, b]) ((i + 1) * 2) S).toArray (g := gn)
    exact grown_of_below hb5
  · have : gn = k := by simpa [Value.ownBlock] using hk
    rw [← this, hgn.out]; exact Nat.le_refl _
theorem insert_any (base : Nat) (v : Value) (n i : Nat) (xs : List Value) (gx : Nat) (a b : Value) (w : World) (ho : w.ownsRow base 61 2 v n xs) (hn : n ≤ 2199023255552) (hi : i ≤ n)
    (h1 : ∀ u ∈ xs, u.oneCell' = true) (hx : Blk w gx 61 [a, b]) (ha : a.oneCell' = true) (hb : b.oneCell' = true) (hbase : base ≤ w.heap.size) (hne : v.ownBlock ≠ some gx) :
    Calls Tryd.prog 51 #[v, .int .i64 i, .slice (some ⟨gx, 0, none⟩) 1 1] w (RowTo w base v (n + 1) (xs.take (i * 2) ++ [a, b] ++ xs.drop (i * 2))) := by
  by_cases he : i = n
  · subst he
    have hxl : xs.length = i * 2 := ho.1
    rw [List.take_of_length_le (by omega), List.drop_of_length_le (by omega), List.append_nil]
    exact insert_end base v i xs gx a b w ho hn hx ha hb hbase
  · obtain ⟨g, cap, cur, rfl, hbg, hB, hc1, hc2, hcl, hct⟩ := row_blk ho (by omega)
    have hg : gx ≠ g := fun e => hne (by rw [e]; rfl)
    by_cases hr : n + 1 ≤ cap
    · exact insert_room base n i g cap cur xs gx a b w hbg hB hr hc2 hcl hct hn (by omega) h1 hx ha hb hg
    · exact insert_grow base n i g cap cur xs gx a b w hbase hB hc1 (by omega) hcl hct hn (by omega) h1 hx ha hb
end Go.Proofs.YtlenmkemjaaaoaaDoor
end
