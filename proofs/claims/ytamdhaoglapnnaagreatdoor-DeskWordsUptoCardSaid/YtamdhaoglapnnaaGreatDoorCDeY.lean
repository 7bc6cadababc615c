/- The walks of the laws on words and on quoted texts. -/
import Derived.Test.YtamdhaoglapnnaaGreatDoorM46
import Derived.Test.YtamdhaoglapnnaaGreatDoorCQtT
import Derived.ChangeKeysEq
namespace Go.Proofs.YtamdhaoglapnnaaGreatDoor
open Go.RowKit

/-- A slice reads as words. -/
def WIs (w : World) (A : Option Addr) (l : List Wrd) : Prop := 0 < l.length → ∃ g o t cs r, A = some ⟨g, o, none⟩ ∧ Blk w g t cs ∧ cs.drop o = wCells l ++ r
theorem WIs.below {w w' : World} {A : Option Addr} {l : List Wrd} (h : WIs w A l) (hb : Below w.heap.size w w') : WIs w' A l := fun hn => by
  obtain ⟨g, o, t, cs, r, e, hB, hd⟩ := h hn
  exact ⟨g, o, t, cs, r, e, hB.below hb hB.lt, hd⟩
theorem WIs.drewN {w : World} {A : Option Addr} {l : List Wrd} (h : WIs w A l) (n : Nat) : WIs (w.drewN n) A l := fun hn => by
  obtain ⟨g, o, t, cs, r, e, hB, hd⟩ := h hn
  exact ⟨g, o, t, cs, r, e, hB.drewN n, hd⟩
theorem WIs.of_own {w : World} {base c : Nat} {e : TypeId} {A : Option Addr} {l : List Wrd} (h : w.ownsRow base e 2 (.slice A l.length c) l.length (wCells l)) : WIs w A l := fun hn => by
  obtain ⟨g, cap, rest, hv, _, _, hB⟩ := own_blks h hn
  cases hv
  exact ⟨g, 0, e, _, rest, rfl, hB, rfl⟩
theorem wcells_at (l : List Wrd) (r : List Value) (k : Nat) (h : k < l.length) : ∃ r', (wCells l ++ r).drop (k * 2) = [.bool l[k].1, strV l[k].2] ++ r' := by
  have h1 : ∀ (l : List Wrd) (k : Nat) (h : k < l.length), ∃ r', (wCells l ++ r).drop (k * 2) = [.bool l[k].1, strV l[k].2] ++ r' := by
    intro l
    induction l with
    | nil => intro k h; simp at h
    | cons p l ih =>
      intro k h
      cases k with
      | zero => exact ⟨wCells l ++ r, rfl⟩
      | succ k =>
        obtain ⟨r', hr⟩ := ih k (by simpa using h)
        refine ⟨r', ?_⟩
        rw [show (k + 1) * 2 = k * 2 + 1 + 1 by omega]
        exact hr
  exact h1 l k h
theorem WIs.at {w : World} {A : Option Addr} {l : List Wrd} (h : WIs w A l) (k : Nat) (hk : k < l.length) : ∃ g o t cs r, A = some ⟨g, o, none⟩ ∧ Blk w g t cs ∧ cs.drop (o + k * 2) = [.bool l[k].1, strV l[k].2] ++ r := by
  obtain ⟨g, o, t, cs, r, e, hB, hd⟩ := h (by omega)
  obtain ⟨r', hr⟩ := wcells_at l r k hk
  refine ⟨g, o, t, cs, r', e, hB, ?_⟩
  rw [← List.drop_drop, hd, hr]
theorem eqFields2 {P : Program} (w : World) (D : Nat) (xs ys : Array Value) {s1 s2 : TypeId} {o1 o2 : Nat} (fs : List Field) (a1 a2 b1 b2 : Value) {u1 u2 : Bool} (hf : (fs.map fun f => (f.name, f.type, f.offset)) = [("Quoted", s1, o1), ("Text", s2, o2)])
    (pa : (part s1 xs o1).run P w = .ok a1 w) (pb : (part s1 ys o1).run P w = .ok b1 w) (qa : (part s2 xs o2).run P w = .ok a2 w) (qb : (part s2 ys o2).run P w = .ok b2 w)
    (e1 : (Op.equalIn D s1 a1 b1).run P w = .ok u1 w) (e2 : (Op.equalIn D s2 a2 b2).run P w = .ok u2 w) :
    (Op.eqFields D xs ys fs).run P w = .ok (u1 && u2) w := by
  obtain ⟨f1, f2, rfl⟩ : ∃ f1 f2, fs = [f1, f2] := by
    rcases fs with _ | ⟨f1, _ | ⟨f2, _ | ⟨f3, fs⟩⟩⟩
    all_goals first | exact ⟨_, _, rfl⟩ | (exfalso; simp at hf)
  simp only [List.map_cons, List.map_nil, List.cons.injEq, Prod.mk.injEq, and_true] at hf
  obtain ⟨⟨n1, t1, p1⟩, ⟨n2, t2, p2⟩⟩ := hf
  simp only [Op.eqFields, n1, n2, t1, t2, p1, p2, ne_eq, String.reduceEq, not_false_eq_true, if_true, Sem.run_bind, pa, pb, e1, Result.andThen_ok]
  cases u1 <;> cases u2 <;> simp [qa, qb, e2]
theorem fields_word : Tryz.prog.underlying 29 = some (.struct (Tryz.prog.fieldsOf 29)) := by
  simp [Program.fieldsOf, Tryz.underlying29]
theorem part_bool2 (w : World) (xs : Array Value) (i : Nat) (b : Bool) (hx : xs[i]? = some (.bool b)) : (part 4 xs i).run Tryz.prog w = .ok (.bool b) w := by
  simp [part, isAgg, run_underlying Tryz.underlying4, hx]
theorem part_str2 (w : World) (xs : Array Value) (i : Nat) (b : ByteArray) (hx : xs[i]? = some (.string b)) : (part 9 xs i).run Tryz.prog w = .ok (.string b) w := by
  simp [part, isAgg, run_underlying Tryz.underlying9, hx]
set_option maxRecDepth 100000 in
/-- A word is itself. -/
theorem exec_neq_word (w : World) {o : Oper} {a : Act} {x y : Operand} {yt : TypeId} (ho : o.op = .binOp .neq 29 x y yt) (q : Bool) (s : Str) (hxe : a.eval x = .agg #[.bool q, .string ⟨s.toArray⟩]) (hye : a.eval y = .agg #[.bool q, .string ⟨s.toArray⟩]) :
    (execOp a.eval o).run Tryz.prog w = .ok (.value (.bool false)) w := by
  have hf : ((Tryz.prog.fieldsOf 29).toList.map fun f => (f.name, f.type, f.offset)) = [("Quoted", 4, 0), ("Text", 9, 1)] := by simp [Program.fieldsOf, Tryz.underlying29]
  have pa := part_bool2 w #[.bool q, .string ⟨s.toArray⟩] 0 q rfl
  have pb := part_str2 w #[.bool q, .string ⟨s.toArray⟩] 1 ⟨s.toArray⟩ rfl
  have e1 : (Op.equalIn 9999 4 (.bool q) (.bool q)).run Tryz.prog w = .ok (q == q) w := run_equalIn_bool w 9998 _ _ _ Tryz.underlying4
  have e2 : (Op.equalIn 9999 9 (.string ⟨s.toArray⟩) (.string ⟨s.toArray⟩)).run Tryz.prog w = .ok ((⟨s.toArray⟩ : ByteArray).toList == (⟨s.toArray⟩ : ByteArray).toList) w := run_equalIn_string w 9998 _ _ _ Tryz.underlying9
  have hq : (Op.equalIn 10000 29 (.agg #[.bool q, .string ⟨s.toArray⟩]) (.agg #[.bool q, .string ⟨s.toArray⟩])).run Tryz.prog w = .ok ((q == q) && ((⟨s.toArray⟩ : ByteArray).toList == (⟨s.toArray⟩ : ByteArray).toList)) w := by
    rw [run_equalIn_struct w 9999 29 _ _ fields_word (by kernel_rfl)]
    exact eqFields2 w 9999 _ _ _ _ _ _ _ hf pa pa pb pb e1 e2
  have h1 : (eqGuard .neq 29 x y (.agg #[.bool q, .string ⟨s.toArray⟩]) (.agg #[.bool q, .string ⟨s.toArray⟩])).run Tryz.prog w = .ok () w := run_eqGuard_agg (P := Tryz.prog) w .neq 29 x y _ _ (by kernel_rfl)
  simp only [execOp, ho, hxe, hye, Sem.run_bind, h1, Result.andThen_ok, run_neq_struct, hq, Sem.run_pure]
  simp
set_option maxRecDepth 100000 in
set_option maxHeartbeats 8000000 in
/-- Words are the same as themselves. -/
theorem same_any (l : List Wrd) (A B : Option Addr) (ca cb : Nat) (w : World) (hl : l.length ≤ 4611686018427387904) (hA : WIs w A l) (hB : WIs w B l) :
    Calls Tryz.prog 10 #[.slice A l.length ca, .slice B l.length cb] w fun e w' => e = .returned (.bool true) ∧ Below w.heap.size w w' := by
  replace hA := Lib.hid hA
  replace hB := Lib.hid hB
  go_enter Tryz.func10, Tryz.ntmps10
  go_wp2_with fail
  go_loopw [13] (fun i wr => ∃ k : Nat, k ≤ l.length ∧ i = .int .i64 k ∧ Below w.heap.size w wr) (fun i _ => l.length - (intOf i).toNat)
  case atStart => exact ⟨0, by omega, rfl, Below.refl _ _⟩
  case round =>
    obtain ⟨k, hk, rfl, hb⟩ := hrel
    by_cases hlt : k < l.length
    · obtain ⟨g, o, t, cs, r, rfl, hGB, hG⟩ := (hA.out.below hb).at k hlt
      obtain ⟨g', o', t', cs', r', rfl, hHB, hH⟩ := (hB.out.below hb).at k hlt
      obtain ⟨q, hq⟩ : ∃ q, q = l[k].1 := ⟨_, rfl⟩
      obtain ⟨s, hs⟩ : ∃ s, s = l[k].2 := ⟨_, rfl⟩
      rw [← hq, ← hs] at hG hH
      clear hq hs
      have i0 : (0 : Int) ≤ (k : Int) := by omega
      have i1 : (k : Int) < (l.length : Int) := by omega
      have hGB' : Hid (∀ w', (∃ n, w' = wr.drewN n) → Blk w' g t cs) := Lib.hid (by rintro _ ⟨n, rfl⟩; exact hGB.drewN n)
      have hHB' : Hid (∀ w', (∃ n, w' = wr.drewN n) → Blk w' g' t' cs') := Lib.hid (by rintro _ ⟨n, rfl⟩; exact hHB.drewN n)
      have hb' : Hid (∀ n, Below w.heap.size w (wr.drewN n)) := Lib.hid (fun n => below_drewN hb n)
      replace hG := Lib.hid hG
      replace hH := Lib.hid hH
      clear hGB hHB hb
      go_wp2_with fail
      refine quiet_tail 8 (by kernel_rfl) (by kernel_rfl) ?_
      simp only [List.take_succ_cons, List.take_zero, List.drop_succ_cons, List.drop_zero]
      repeat (first
        | go_big_quiet_step (fail)
        | (refine wpQuiet_load_part 29 (.tmp 18) rfl rfl g (o + k * 2) rfl t cs [.bool q, strV s] r hGB'.out hG.out _ Tryz.underlying29 rfl wordSz ?_; go_frame)
        | (refine wpQuiet_load_part 29 (.tmp 22) rfl rfl g' (o' + k * 2) rfl t' cs' [.bool q, strV s] r' hHB'.out hH.out _ Tryz.underlying29 rfl wordSz ?_; go_frame))
      refine wpQuiet_nil ?_
      rintro _ ⟨nq, rfl⟩
      refine wpList_run _ rfl rfl _ (exec_neq_word _ rfl q s rfl rfl) ?_
      go_wp2_with fail
      go_roundw
      case rel => exact ⟨k + 1, by omega, by go_num, hb'.out nq⟩
      case measure => simp [intOf]; omega
    · go_wp2_with fail
      go_returns
      exact ⟨rfl, hb⟩
theorem words_len : ∀ (n : Nat) (s : Str), s.length ≤ n → ∀ l, wordsS s = some l → l.length ≤ s.length + 1 := by
  intro n
  induction n with
  | zero =>
    intro s hs l h
    have h0 : s = [] := List.length_eq_zero_iff.1 (by omega)
    cases hw : wordAt s with
    | none => rw [words_none hw] at h; cases h
    | some q =>
      obtain ⟨p, m⟩ := q
      have hp := (wordAt_pos hw)
      subst h0
      rw [words_some hw] at h
      simp at h
      obtain ⟨_, rfl⟩ := h
      simp
  | succ n ih =>
    intro s hs l h
    cases hw : wordAt s with
    | none => rw [words_none hw] at h; cases h
    | some q =>
      obtain ⟨p, m⟩ := q
      have hp := (wordAt_pos hw)
      rw [words_some hw] at h
      split at h
      · injection h with h
        rw [← h]
        simp
      · split at h
        · cases hr : wordsS (s.drop (m + 1)) with
          | none => rw [hr] at h; cases h
          | some l' =>
            rw [hr] at h
            injection h with h
            have := ih (s.drop (m + 1)) (by rw [List.length_drop]; omega) l' hr
            rw [List.length_drop] at this
            rw [← h, List.length_cons]
            omega
        · cases h
set_option maxRecDepth 100000 in
set_option maxHeartbeats 8000000 in
theorem deskquotes_any (s t : Str) (w : World) (hI : DeskIn w) (hs : s.length ≤ 1073741824) (ht : t.length ≤ 1073741824) :
    Calls Tryz.prog 6 #[strV s, strV t] w fun e w' => e = .returned (.bool true) ∧ Below w.heap.size w w' := by
  have ha := Lib.hid dalive_any
  have hq1 := Lib.hid (fun W => quote_any s W (by omega))
  have hq2 := Lib.hid (fun W => rquote_any s W (by omega))
  have hu1 := Lib.hid (fun W (h : ErrIn W) => unquote_any t W (by omega) h)
  have hu2 := Lib.hid (fun W => runquote_any t W (by omega))
  obtain ⟨q, hq⟩ : ∃ q, q = quoteS s := ⟨_, rfl⟩
  rw [← hq] at hq1 hq2
  clear hq
  obtain ⟨u, hu⟩ : ∃ u, u = unquoteS t := ⟨_, rfl⟩
  unfold UnTo at hu1 hu2
  rw [← hu] at hu1 hu2
  clear hu
  unfold strV at hq1 hq2 hu1 hu2 ⊢
  replace hI := Lib.hid hI
  go_enter Tryz.func6, Tryz.ntmps6
  go_wp2_with fail
  refine (hu1.out w hI.out.err).mono ?_
  rintro e w1 ⟨rfl, hb1⟩
  replace hb1 := Lib.hid hb1
  cases u
  all_goals
    go_wp2_with fail
    refine (hu2.out w1).mono ?_
    rintro e w2 ⟨rfl, hb2⟩
    have hb2' := hb1.out.trans (hb2.mono hb1.out.size)
    clear hb2
    replace hb2' := Lib.hid hb2'
    go_wp2_with fail
    refine (hq1.out w2).mono ?_
    rintro e w3 ⟨rfl, hb3⟩
    have hb3' := hb2'.out.trans (hb3.mono hb2'.out.size)
    clear hb3
    replace hb3' := Lib.hid hb3'
    go_wp2_with fail
    refine (hq2.out w3).mono ?_
    rintro e w4 ⟨rfl, hb4⟩
    have hb4' := hb3'.out.trans (hb4.mono hb3'.out.size)
    have hal := ha.out w4 (hI.out.below hb4')
    clear hb4
    replace hb4' := Lib.hid hb4'
    go_wp2_with fail
    refine hal.mono ?_
    rintro e w5 ⟨rfl, hb5⟩
    have hb5' := hb4'.out.trans (hb5.mono hb4'.out.size)
    clear hal hb5
    replace hb5' := Lib.hid hb5'
    go_wp2_with fail
    go_returns
    exact ⟨rfl, hb5'.out⟩
set_option maxRecDepth 100000 in
set_option maxHeartbeats 8000000 in
theorem deskwords_any (s : Str) (w : World) (hI : DeskIn w) (hs : s.length ≤ 1073741824) :
    Calls Tryz.prog 3 #[strV s] w fun e w' => e = .returned (.bool true) ∧ Below w.heap.size w w' := by
  have ha := Lib.hid dalive_any
  have hu1 := Lib.hid (fun W (h : ErrIn W) => words_any s W (by omega) h)
  have hu2 := Lib.hid (fun W => rwords_any s W (by omega))
  have hsm := Lib.hid same_any
  have hfit : ∀ l, wordsS s = some l → l.length ≤ s.length + 1 := fun l h => words_len _ s (Nat.le_refl _) l h
  unfold WordsTo at hu1 hu2
  obtain ⟨u, hu⟩ : ∃ u, u = wordsS s := ⟨_, rfl⟩
  rw [← hu] at hu1 hu2 hfit
  clear hu
  unfold strV at hu1 hu2 ⊢
  replace hI := Lib.hid hI
  go_enter Tryz.func3, Tryz.ntmps3
  go_wp2_with fail
  refine (hu1.out w hI.out.err).mono ?_
  rintro e w1 ⟨hm1, hb1⟩
  cases u with
  | none =>
    obtain rfl := hm1
    replace hb1 := Lib.hid hb1
    go_wp2_with fail
    refine (hu2.out w1).mono ?_
    rintro e w2 ⟨hm2, hb2⟩
    obtain rfl := hm2
    have hb2' := hb1.out.trans (hb2.mono hb1.out.size)
    clear hb2
    replace hb2' := Lib.hid hb2'
    go_wp2_with fail
    refine (hsm.out [] none none 0 0 w2 (by simp) (fun h => by simp at h) (fun h => by simp at h)).mono ?_
    rintro e w4 ⟨rfl, hb4⟩
    have hb4' := hb2'.out.trans (hb4.mono hb2'.out.size)
    have hal := ha.out w4 (hI.out.below hb4')
    clear hb4
    replace hb4' := Lib.hid hb4'
    go_wp2_with fail
    refine hal.mono ?_
    rintro e w5 ⟨rfl, hb5⟩
    have hb5' := hb4'.out.trans (hb5.mono hb4'.out.size)
    clear hal hb5
    replace hb5' := Lib.hid hb5'
    go_wp2_with fail
    go_returns
    exact ⟨rfl, hb5'.out⟩
  | some l =>
    have hl := hfit l rfl
    obtain ⟨A, c, rfl, hown⟩ := hm1
    have hW1 := Lib.hid (WIs.of_own hown)
    replace hb1 := Lib.hid hb1
    clear hown hfit
    go_wp2_with fail
    refine (hu2.out w1).mono ?_
    rintro e w2 ⟨⟨A2, c2, rfl, hown2⟩, hb2⟩
    have hW2 := Lib.hid (WIs.of_own hown2)
    have hW3 := Lib.hid (hW1.out.below hb2)
    have hb2' := hb1.out.trans (hb2.mono hb1.out.size)
    clear hb2 hown2 hW1
    replace hb2' := Lib.hid hb2'
    go_wp2_with fail
    refine (hsm.out l A A2 c c2 w2 (by omega) hW3.out hW2.out).mono ?_
    rintro e w4 ⟨rfl, hb4⟩
    have hb4' := hb2'.out.trans (hb4.mono hb2'.out.size)
    have hal := ha.out w4 (hI.out.below hb4')
    clear hb4
    replace hb4' := Lib.hid hb4'
    go_wp2_with fail
    refine hal.mono ?_
    rintro e w5 ⟨rfl, hb5⟩
    have hb5' := hb4'.out.trans (hb5.mono hb4'.out.size)
    clear hal hb5
    replace hb5' := Lib.hid hb5'
    go_wp2_with fail
    go_returns
    exact ⟨rfl, hb5'.out⟩
end Go.Proofs.YtamdhaoglapnnaaGreatDoor
