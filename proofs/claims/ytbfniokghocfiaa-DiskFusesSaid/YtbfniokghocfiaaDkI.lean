/- The walks of the law's own helpers: same, call. -/
import Derived.Test.YtbfniokghocfiaaDkH
import Derived.Laws.StructEq
namespace Go.Proofs.Ytbfniokghocfiaa
open Go.RowKit Go.Maps Go.Sort

theorem fileSz : (Try.prog.info? 35).map (·.size) = some 2 := by kernel_rfl
theorem FilesIs.blk {w : World} {base : Nat} {A : Option Addr} {c : Nat} {l : List (List UInt8 × List UInt8)} (h : FilesIs w base (.slice A l.length c) l) (hl : 0 < l.length) : ∃ g cs r, A = some ⟨g, 0, none⟩ ∧ Blk w g 35 cs ∧ cs = fCells l ++ r := by
  rcases h.2 with ⟨_, h0⟩ | ⟨g, cap, cur, hv, _, hg, _, _, _, ht⟩
  · omega
  · refine ⟨g, cur.toList, cur.toList.drop (l.length * 2), by injection hv, by unfold Blk; simpa using hg, ?_⟩
    rw [← ht, List.take_append_drop]
theorem run_neq_file (w : World) (a b : List UInt8) : (binOp .neq 35 (.agg #[strV a, strV b]) (.agg #[strV a, strV b])).run Try.prog w = .ok (.bool false) w := by
  unfold strV
  rw [run_neq_struct]
  have hf : ((Try.prog.fieldsOf 35).toList.map fun f => (f.name == "_", f.type, f.offset)) = [(false, 9, 0), (false, 9, 1)] := by kernel_rfl
  have hq := run_equalIn_agg (P := Try.prog) w 9999 35 #[.string ⟨a.toArray⟩, .string ⟨b.toArray⟩] #[.string ⟨a.toArray⟩, .string ⟨b.toArray⟩] (by kernel_rfl) (by kernel_rfl)
  rw [hq]
  clear hq
  generalize (Try.prog.fieldsOf 35).toList = fs at hf ⊢
  have hs : ∀ (s : List UInt8) (d : Nat), (Op.equalIn (d + 1) 9 (.string ⟨s.toArray⟩) (.string ⟨s.toArray⟩)).run Try.prog w = .ok true w := fun s d => by
    rw [run_equalIn_string w d _ _ _ Try.underlying9]; simp
  obtain ⟨f0, f1, rfl⟩ : ∃ f0 f1, fs = [f0, f1] := by
    have hl := congrArg List.length hf
    simp only [List.length_map, List.length_cons, List.length_nil] at hl
    cases fs with
    | nil => simp at hl
    | cons f0 r =>
      cases r with
      | nil => simp at hl
      | cons f1 r2 =>
        cases r2 with
        | nil => exact ⟨f0, f1, rfl⟩
        | cons _ _ => simp at hl
  simp only [List.map_cons, List.map_nil, List.cons.injEq, Prod.mk.injEq, and_true] at hf
  obtain ⟨⟨n0, t0, o0⟩, n1, t1, o1⟩ := hf
  have n0' : f0.name ≠ "_" := by simpa using n0
  have n1' : f1.name ≠ "_" := by simpa using n1
  have hp0 : (part 9 #[Value.string ⟨a.toArray⟩, .string ⟨b.toArray⟩] 0).run Try.prog w = .ok (.string ⟨a.toArray⟩) w := by simp [part, isAgg, run_underlying Try.underlying9]
  have hp1 : (part 9 #[Value.string ⟨a.toArray⟩, .string ⟨b.toArray⟩] 1).run Try.prog w = .ok (.string ⟨b.toArray⟩) w := by simp [part, isAgg, run_underlying Try.underlying9]
  unfold Op.eqFields
  rw [if_pos n0']
  unfold Op.eqFields
  rw [if_pos n1']
  simp only [Op.eqFields, t0, t1, o0, o1, Sem.run_bind, hp0, hp1, Result.andThen_ok, hs _ 9998, Bool.not_true, Bool.false_eq_true, if_false, Sem.run_pure]
theorem neq_op (w : World) (a b : List UInt8) (ev : Operand → Value) {o : Oper} (ho : o.op = Op.binOp .neq 35 (.tmp 19) (.tmp 23) 35) (h1 : ev (.tmp 19) = .agg #[strV a, strV b]) (h2 : ev (.tmp 23) = .agg #[strV a, strV b]) :
    (execOp ev o).run Try.prog w = .ok (.value (.bool false)) w := by
  have hg := run_eqGuard_agg (P := Try.prog) w .neq 35 (.tmp 19) (.tmp 23) #[strV a, strV b] #[strV a, strV b] (by kernel_rfl)
  unfold execOp
  simp only [ho, h1, h2, Sem.run_bind, hg, run_neq_file, Result.andThen_ok, Sem.run_pure]
set_option maxHeartbeats 1000000 in
theorem same_any (l : List (List UInt8 × List UInt8)) (A1 A2 : Option Addr) (c1 c2 b1 b2 : Nat) (w : World) (h1 : FilesIs w b1 (.slice A1 l.length c1) l) (h2 : FilesIs w b2 (.slice A2 l.length c2) l) (hl : l.length ≤ 4398046511104) :
    Calls Try.prog 13 #[.slice A1 l.length c1, .slice A2 l.length c2] w fun e w' => e = .returned (.bool true) ∧ Below w.heap.size w w' := by
  replace h1 := Lib.hid h1
  replace h2 := Lib.hid h2
  go_enter Try.func13, Try.ntmps13
  go_wp2_with fail
  go_loopw [13] (fun i wr => ∃ k : Nat, k ≤ l.length ∧ i = .int .i64 k ∧ Below w.heap.size w wr) (fun i _ => l.length - (intOf i).toNat)
  case atStart => exact ⟨0, Nat.zero_le _, rfl, Below.refl _ _⟩
  case round =>
    obtain ⟨k, hk, rfl, hb⟩ := hrel
    by_cases hlt : k < l.length
    · obtain ⟨g1, cs1, r1, e1, hB1, hc1⟩ := h1.out.blk (by omega)
      obtain ⟨g2, cs2, r2, e2, hB2, hc2⟩ := h2.out.blk (by omega)
      subst e1
      subst e2
      obtain ⟨q, hq⟩ := fCells_drop l k hlt
      have hd1 : cs1.drop (k * 2) = [strV l[k].1, strV l[k].2] ++ (q ++ r1) := by
        rw [hc1, List.drop_append_of_le_length (by rw [fCells_len]; omega), hq, List.append_assoc]
      have hd2 : cs2.drop (k * 2) = [strV l[k].1, strV l[k].2] ++ (q ++ r2) := by
        rw [hc2, List.drop_append_of_le_length (by rw [fCells_len]; omega), hq, List.append_assoc]
      have hB1' := hB1.below hb hB1.lt
      have hB2' := hB2.below hb hB2.lt
      obtain ⟨a, ha⟩ : ∃ a, a = l[k].1 := ⟨_, rfl⟩
      obtain ⟨b, hbb⟩ : ∃ b, b = l[k].2 := ⟨_, rfl⟩
      rw [← ha, ← hbb] at hd1 hd2
      clear hq hc1 hc2 ha hbb hB1 hB2
      replace hd1 := Lib.hid hd1
      replace hd2 := Lib.hid hd2
      replace hb := Lib.hid hb
      have i1 : (0 : Int) ≤ (k : Int) := by omega
      have i2 : (k : Int) < (l.length : Int) := by omega
      haveI := over_nonempty wr
      go_wp2_with fail
      refine quiet_over (by kernel_rfl) (by kernel_rfl) ?_
      repeat (first
        | (refine wpQuiet_load_part 35 (.tmp 18) rfl rfl g1 (k * 2) rfl 35 cs1 [strV a, strV b] (q ++ r1) (fun w hw => ?_) hd1.out _ Try.underlying35 rfl fileSz ?_
           · obtain ⟨s, rfl⟩ := hw
             exact blk_over hB1' s
           go_frame)
        | (refine wpQuiet_load_part 35 (.tmp 22) rfl rfl g2 (k * 2) rfl 35 cs2 [strV a, strV b] (q ++ r2) (fun w hw => ?_) hd2.out _ Try.underlying35 rfl fileSz ?_
           · obtain ⟨s, rfl⟩ := hw
             exact blk_over hB2' s
           go_frame)
        | (refine wpQuiet_run _ (rfl : _ = Op.binOp .neq 35 (.tmp 19) (.tmp 23) 35) rfl (.bool false) (fun w _ => ?_) ?_
           · exact neq_op w a b _ rfl rfl rfl
           go_frame)
        | go_big_quiet_step (fail))
      refine wpQuiet_nil ?_
      rintro _ ⟨s, rfl⟩
      go_wp2
      go_roundw
      case rel => exact ⟨k + 1, by omega, by go_num, hb.out.trans (s.2.mono hb.out.size)⟩
      case measure => simp [intOf]; omega
    · replace hb := Lib.hid hb
      go_wp2
      go_ret
      exact ⟨rfl, hb.out⟩

/-! ### a writing call -/
/-- An act. -/
structure ActD where
  kind : Int
  two : Bool
  a : List UInt8
  b : List UInt8
  t : List UInt8
  n : Int
  la : Option Addr
  ll : Nat
  lc : Nat
def ActD.cells (x : ActD) : List Value := [.int .i64 x.kind, .bool x.two, strV x.a, strV x.b, strV x.t, .int .i64 x.n, .slice x.la x.ll x.lc]
structure ActD.Ok (x : ActD) : Prop where
  a : x.a.length ≤ 140737488355328
  b : x.b.length ≤ 140737488355328
  t : x.t.length ≤ 140737488355328
  k0 : -9223372036854775808 ≤ x.kind
  k1 : x.kind ≤ 9223372036854775807
def ActD.which (x : ActD) : Int := Int.tmod (Int.tmod x.kind 4 + 4) 4
def ActD.call (x : ActD) : Call := if x.which = 1 then .remove x.a else if x.which = 2 then .rename x.a x.b else if x.which = 3 then .sync else .write x.a x.t
set_option maxHeartbeats 2000000 in
theorem call_any (g bn bs : Nat) (v : Value) (S : DS) (x : ActD) (w : World) (h : DiskAt w g bn bs v S) (hA : Asked S) (hx : x.Ok) :
    Calls Try.prog 15 #[.pointer (some ⟨g, 0, none⟩), .agg x.cells.toArray] w fun e w' => e = .returned (.int .i64 (x.call.errno S)) ∧ Turned w (foot g bn bs v) g (x.call.turn S) w' := by
  obtain ⟨kind, two, a, b, t, n, la, ll, lc⟩ := x
  have ecs : (ActD.cells ⟨kind, two, a, b, t, n, la, ll, lc⟩).toArray = #[.int .i64 kind, .bool two, strV a, strV b, strV t, .int .i64 n, .slice la ll lc] := rfl
  rw [ecs]
  clear ecs
  have hb0 : Below w.heap.size w (w.alloc (.cells #[.int .i64 kind, .bool two, strV a, strV b, strV t, .int .i64 n, .slice la ll lc] 37)) := (Below.refl _ _).alloc (Nat.le_refl _) _
  have hd0 := h.below hb0
  have hq1 : -3 ≤ Int.tmod kind 4 := by have := Int.tmod_lt_of_pos (-kind) (show (0 : Int) < 4 by omega); rw [Int.neg_tmod] at this; omega
  have hq2 : Int.tmod kind 4 ≤ 3 := by have := Int.tmod_lt_of_pos kind (show (0 : Int) < 4 by omega); omega
  have hw := Lib.hid (write_any g bn bs v S a t _ hd0 hA hx.a hx.t)
  have hr := Lib.hid (remove_any g bn bs v S a _ hd0 hA hx.a)
  have hn := Lib.hid (rename_any g bn bs v S a b _ hd0 hA hx.a hx.b)
  have hs := Lib.hid (sync_any g bn bs v S _ hd0 hA.toFit)
  have k0 : -9223372036854775808 ≤ kind := hx.k0
  have k1 : kind ≤ 9223372036854775807 := hx.k1
  have hend : Hid (∀ S' w', Turned (w.alloc (.cells #[.int .i64 kind, .bool two, strV a, strV b, strV t, .int .i64 n, .slice la ll lc] 37)) (foot g bn bs v) g S' w' → Turned w (foot g bn bs v) g S' w') := Lib.hid (fun S' w' hT => Turned.then (Touch.ofBelow hb0) (fun i hi => .inl hi) hT)
  obtain ⟨q, hq⟩ : ∃ q, q = Int.tmod kind 4 := ⟨_, rfl⟩
  have hc : Hid ((ActD.call ⟨kind, two, a, b, t, n, la, ll, lc⟩) = if (q + 4) % 4 = 1 then Call.remove a else if (q + 4) % 4 = 2 then .rename a b else if (q + 4) % 4 = 3 then .sync else .write a t) := Lib.hid (by
    unfold ActD.call ActD.which
    rw [hq]
    have e : Int.tmod (Int.tmod kind 4 + 4) 4 = (Int.tmod kind 4 + 4) % 4 := Int.tmod_eq_emod_of_nonneg (by omega)
    simp only [e])
  obtain ⟨c, hcc⟩ : ∃ c, c = ActD.call ⟨kind, two, a, b, t, n, la, ll, lc⟩ := ⟨_, rfl⟩
  rw [← hcc] at hc ⊢
  clear hcc
  rw [← hq] at hq1 hq2
  have hqt : Int.tmod kind 4 = q := hq.symm
  clear hq
  clear hA hx hb0 hd0 h
  have hr1 : 0 ≤ (q + 4) % 4 := by omega
  have hr2 : (q + 4) % 4 < 4 := by omega
  go_enter Try.func15, Try.ntmps15
  go_wp2_with (first
    | (go_at_call 25; refine hr.out.mono ?_; rintro e w' ⟨rfl, hT⟩; replace hT := Lib.hid hT)
    | (go_at_call 26; refine hn.out.mono ?_; rintro e w' ⟨rfl, hT⟩; replace hT := Lib.hid hT)
    | (go_at_call 11; refine hs.out.mono ?_; rintro e w' ⟨rfl, hT⟩; replace hT := Lib.hid hT)
    | (go_at_call 21; refine hw.out.mono ?_; rintro e w' ⟨rfl, hT⟩; replace hT := Lib.hid hT))
  all_goals go_ret
  · rename_i h1
    have e1 : (q + 4) % 4 = 1 := by have : q % 4 = 1 := by simpa using h1
                                    omega
    rw [hc.out, if_pos e1]
    exact ⟨rfl, hend.out _ _ hT.out⟩
  · rename_i h1 h2
    have e1 : ¬ (q + 4) % 4 = 1 := by have : ¬ q % 4 = 1 := by simpa using h1
                                      omega
    have e2 : (q + 4) % 4 = 2 := by have : q % 4 = 2 := by simpa using h2
                                    omega
    rw [hc.out, if_neg e1, if_pos e2]
    exact ⟨rfl, hend.out _ _ hT.out⟩
  · rename_i h1 h2 h3
    have e1 : ¬ (q + 4) % 4 = 1 := by have : ¬ q % 4 = 1 := by simpa using h1
                                      omega
    have e2 : ¬ (q + 4) % 4 = 2 := by have : ¬ q % 4 = 2 := by simpa using h2
                                      omega
    have e3 : (q + 4) % 4 = 3 := by have : q % 4 = 3 := by simpa using h3
                                    omega
    rw [hc.out, if_neg e1, if_neg e2, if_pos e3]
    exact ⟨rfl, hend.out _ _ hT.out⟩
  · rename_i h1 h2 h3
    have e1 : ¬ (q + 4) % 4 = 1 := by have : ¬ q % 4 = 1 := by simpa using h1
                                      omega
    have e2 : ¬ (q + 4) % 4 = 2 := by have : ¬ q % 4 = 2 := by simpa using h2
                                      omega
    have e3 : ¬ (q + 4) % 4 = 3 := by have : ¬ q % 4 = 3 := by simpa using h3
                                      omega
    rw [hc.out, if_neg e1, if_neg e2, if_neg e3]
    exact ⟨rfl, hend.out _ _ hT.out⟩
end Go.Proofs.Ytbfniokghocfiaa
