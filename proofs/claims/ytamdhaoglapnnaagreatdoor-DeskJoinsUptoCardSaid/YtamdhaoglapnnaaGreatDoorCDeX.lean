/- The walks of the laws on words, and what the walk of DeskJoins is told of its argument. -/
import Derived.Test.YtamdhaoglapnnaaGreatDoorM46
import Derived.Test.YtamdhaoglapnnaaGreatDoorCQtT
import Derived.ChangeKeysEq
import Derived.Test.YtamdhaoglapnnaaGreatDoorRows
import Derived.ProofKit
import Derived.SizedLaws
import Derived.Deep.Slices
import Derived.Deep.Fields
section
namespace Go.Proofs.YtamdhaoglapnnaaGreatDoor
open Go.RowKit

/-- A slice reads as words. -/
def WIs (w : World) (A : Option Addr) (l : List Wrd) : Prop := 0 < l.length → ∃ g o t cs r, A = some ⟨g, o, none⟩ ∧ Blk w g t cs ∧ cs.drop o = wCells l ++ r
theorem WIs.below {w w' : World} {A : Option Addr} {l : List Wrd} (h : WIs w A l) (hb : Below w.heap.size w w') : WIs w' A l := fun hn => by
  obtain ⟨g, o, t, cs, r, e, hB, hd⟩ := h hn
  exact ⟨g, o, t, cs, r, e, hB.below hb hB.lt, hd⟩
theorem WIs.drewN {w : World} {A : Option Addr} {l : List Wrd} (h : WIs w A l) (n : Nat) : WIs (w.drewN n) A l := fun hn => by
  obtain ⟨g, o, t, cs, r, e, hB, hd⟩ := h hn
  exact ⟨g, o, t, cs, r, e, hB.drewN n, hd⟩
theorem WIs.of_own {w : World} {base c : Nat} {e : TypeId} {A : Option Addr} {l : List Wrd} (h : w.ownsRow base e 2 (.slice A l.length c) l.length (wCells l)) : WIs w A l := fun hn => by
  obtain ⟨g, cap, rest, hv, _, _, hB⟩ := own_blks h hn
  cases hv
  exact ⟨g, 0, e, _, rest, rfl, hB, rfl⟩
theorem wcells_at (l : List Wrd) (r : List Value) (k : Nat) (h : k < l.length) : ∃ r', (wCells l ++ r).drop (k * 2) = [.bool l[k].1, strV l[k].2] ++ r' := by
  have h1 : ∀ (l : List Wrd) (k : Nat) (h : k < l.length), ∃ r', (wCells l ++ r).drop (k * 2) = [.bool l[k].1, strV l[k].2] ++ r' := by
    intro l
    induction l with
    | nil => intro k h; simp at h
    | cons p l ih =>
      intro k h
      cases k with
      | zero => exact ⟨wCells l ++ r, rfl⟩
      | succ k =>
        obtain ⟨r', hr⟩ := ih k (by simpa using h)
        refine ⟨r', ?_⟩
        rw [show (k + 1) * 2 = k * 2 + 1 + 1 by omega]
        exact hr
  exact h1 l k h
theorem WIs.at {w : World} {A : Option Addr} {l : List Wrd} (h : WIs w A l) (k : Nat) (hk : k < l.length) : ∃ g o t cs r, A = some ⟨g, o, none⟩ ∧ Blk w g t cs ∧ cs.drop (o + k * 2) = [.bool l[k].1, strV l[k].2] ++ r := by
  obtain ⟨g, o, t, cs, r, e, hB, hd⟩ := h (by omega)
  obtain ⟨r', hr⟩ := wcells_at l r k hk
  refine ⟨g, o, t, cs, r', e, hB, ?_⟩
  rw [← List.drop_drop, hd, hr]
theorem eqFields2 {P : Program} (w : World) (D : Nat) (xs ys : Array Value) {s1 s2 : TypeId} {o1 o2 : Nat} (fs : List Field) (a1 a2 b1 b2 : Value) {u1 u2 : Bool} (hf : (fs.map fun f => (f.name, f.type, f.offset)) = [("Quoted", s1, o1), ("Text", s2, o2)])
    (pa : (part s1 xs o1).run P w = .ok a1 w) (pb : (part s1 ys o1).run P w = .ok b1 w) (qa : (part s2 xs o2).run P w = .ok a2 w) (qb : (part s2 ys o2).run P w = .ok b2 w)
    (e1 : (Op.equalIn D s1 a1 b1).run P w = .ok u1 w) (e2 : (Op.equalIn D s2 a2 b2).run P w = .ok u2 w) :
    (Op.eqFields D xs ys fs).run P w = .ok (u1 && u2) w := by
  obtain ⟨f1, f2, rfl⟩ : ∃ f1 f2, fs = [f1, f2] := by
    rcases fs with _ | ⟨f1, _ | ⟨f2, _ | ⟨f3, fs⟩⟩⟩
    all_goals first | exact ⟨_, _, rfl⟩ | (exfalso; simp at hf)
  simp only [List.map_cons, List.map_nil, List.cons.injEq, Prod.mk.injEq, and_true] at hf
  obtain ⟨⟨n1, t1, p1⟩, ⟨n2, t2, p2⟩⟩ := hf
  simp only [Op.eqFields, n1, n2, t1, t2, p1, p2, ne_eq, String.reduceEq, not_false_eq_true, if_true, Sem.run_bind, pa, pb, e1, Result.andThen_ok]
  cases u1 <;> cases u2 <;> simp [qa, qb, e2]
theorem fields_word : Tryz.prog.underlying 29 = some (.struct (Tryz.prog.fieldsOf 29)) := by
  simp [Program.fieldsOf, Tryz.underlying29]
theorem part_bool2 (w : World) (xs : Array Value) (i : Nat) (b : Bool) (hx : xs[i]? = some (.bool b)) : (part 4 xs i).run Tryz.prog w = .ok (.bool b) w := by
  simp [part, isAgg, run_underlying Tryz.underlying4, hx]
theorem part_str2 (w : World) (xs : Array Value) (i : Nat) (b : ByteArray) (hx : xs[i]? = some (.string b)) : (part 9 xs i).run Tryz.prog w = .ok (.string b) w := by
  simp [part, isAgg, run_underlying Tryz.underlying9, hx]
set_option maxRecDepth 100000 in
/-- A word is itself. -/
theorem exec_neq_word (w : World) {o : Oper} {a : Act} {x y : Operand} {yt : TypeId} (ho : o.op = .binOp .neq 29 x y yt) (q : Bool) (s : Str) (hxe : a.eval x = .agg #[.bool q, .string ⟨s.toArray⟩]) (hye : a.eval y = .agg #[.bool q, .string ⟨s.toArray⟩]) :
    (execOp a.eval o).run Tryz.prog w = .ok (.value (.bool false)) w := by
  have hf : ((Tryz.prog.fieldsOf 29).toList.map fun f => (f.name, f.type, f.offset)) = [("Quoted", 4, 0), ("Text", 9, 1)] := by simp [Program.fieldsOf, Tryz.underlying29]
  have pa := part_bool2 w #[.bool q, .string ⟨s.toArray⟩] 0 q rfl
  have pb := part_str2 w #[.bool q, .string ⟨s.toArray⟩] 1 ⟨s.toArray⟩ rfl
  have e1 : (Op.equalIn 9999 4 (.bool q) (.bool q)).run Tryz.prog w = .ok (q == q) w := run_equalIn_bool w 9998 _ _ _ Tryz.underlying4
  have e2 : (Op.equalIn 9999 9 (.string ⟨s.toArray⟩) (.string ⟨s.toArray⟩)).run Tryz.prog w = .ok ((⟨s.toArray⟩ : ByteArray).toList == (⟨s.toArray⟩ : ByteArray).toList) w := run_equalIn_string w 9998 _ _ _ Tryz.underlying9
  have hq : (Op.equalIn 10000 29 (.agg #[.bool q, .string ⟨s.toArray⟩]) (.agg #[.bool q, .string ⟨s.toArray⟩])).run Tryz.prog w = .ok ((q == q) && ((⟨s.toArray⟩ : ByteArray).toList == (⟨s.toArray⟩ : ByteArray).toList)) w := by
    rw [run_equalIn_struct w 9999 29 _ _ fields_word (by kernel_rfl)]
    exact eqFields2 w 9999 _ _ _ _ _ _ _ hf pa pa pb pb e1 e2
  have h1 : (eqGuard .neq 29 x y (.agg #[.bool q, .string ⟨s.toArray⟩]) (.agg #[.bool q, .string ⟨s.toArray⟩])).run Tryz.prog w = .ok () w := run_eqGuard_agg (P := Tryz.prog) w .neq 29 x y _ _ (by kernel_rfl)
  simp only [execOp, ho, hxe, hye, Sem.run_bind, h1, Result.andThen_ok, run_neq_struct, hq, Sem.run_pure]
  simp
set_option maxRecDepth 100000 in
set_option maxHeartbeats 8000000 in
/-- Words are the same as themselves. -/
theorem same_any (l : List Wrd) (A B : Option Addr) (ca cb : Nat) (w : World) (hl : l.length ≤ 4611686018427387904) (hA : WIs w A l) (hB : WIs w B l) :
    Calls Tryz.prog 10 #[.slice A l.length ca, .slice B l.length cb] w fun e w' => e = .returned (.bool true) ∧ Below w.heap.size w w' := by
  replace hA := Lib.hid hA
  replace hB := Lib.hid hB
  go_enter Tryz.func10, Tryz.ntmps10
  go_wp2_with fail
  go_loopw [13] (fun i wr => ∃ k : Nat, k ≤ l.length ∧ i = .int .i64 k ∧ Below w.heap.size w wr) (fun i _ => l.length - (intOf i).toNat)
  case atStart => exact ⟨0, by omega, rfl, Below.refl _ _⟩
  case round =>
    obtain ⟨k, hk, rfl, hb⟩ := hrel
    by_cases hlt : k < l.length
    · obtain ⟨g, o, t, cs, r, rfl, hGB, hG⟩ := (hA.out.below hb).at k hlt
      obtain ⟨g', o', t', cs', r', rfl, hHB, hH⟩ := (hB.out.below hb).at k hlt
      obtain ⟨q, hq⟩ : ∃ q, q = l[k].1 := ⟨_, rfl⟩
      obtain ⟨s, hs⟩ : ∃ s, s = l[k].2 := ⟨_, rfl⟩
      rw [← hq, ← hs] at hG hH
      clear hq hs
      have i0 : (0 : Int) ≤ (k : Int) := by omega
      have i1 : (k : Int) < (l.length : Int) := by omega
      have hGB' : Hid (∀ w', (∃ n, w' = wr.drewN n) → Blk w' g t cs) := Lib.hid (by rintro _ ⟨n, rfl⟩; exact hGB.drewN n)
      have hHB' : Hid (∀ w', (∃ n, w' = wr.drewN n) → Blk w' g' t' cs') := Lib.hid (by rintro _ ⟨n, rfl⟩; exact hHB.drewN n)
      have hb' : Hid (∀ n, Below w.heap.size w (wr.drewN n)) := Lib.hid (fun n => below_drewN hb n)
      replace hG := Lib.hid hG
      replace hH := Lib.hid hH
      clear hGB hHB hb
      go_wp2_with fail
      refine quiet_tail 8 (by kernel_rfl) (by kernel_rfl) ?_
      simp only [List.take_succ_cons, List.take_zero, List.drop_succ_cons, List.drop_zero]
      repeat (first
        | go_big_quiet_step (fail)
        | (refine wpQuiet_load_part 29 (.tmp 18) rfl rfl g (o + k * 2) rfl t cs [.bool q, strV s] r hGB'.out hG.out _ Tryz.underlying29 rfl wordSz ?_; go_frame)
        | (refine wpQuiet_load_part 29 (.tmp 22) rfl rfl g' (o' + k * 2) rfl t' cs' [.bool q, strV s] r' hHB'.out hH.out _ Tryz.underlying29 rfl wordSz ?_; go_frame))
      refine wpQuiet_nil ?_
      rintro _ ⟨nq, rfl⟩
      refine wpList_run _ rfl rfl _ (exec_neq_word _ rfl q s rfl rfl) ?_
      go_wp2_with fail
      go_roundw
      case rel => exact ⟨k + 1, by omega, by go_num, hb'.out nq⟩
      case measure => simp [intOf]; omega
    · go_wp2_with fail
      go_returns
      exact ⟨rfl, hb⟩
theorem words_len : ∀ (n : Nat) (s : Str), s.length ≤ n → ∀ l, wordsS s = some l → l.length ≤ s.length + 1 := by
  intro n
  induction n with
  | zero =>
    intro s hs l h
    have h0 : s = [] := List.length_eq_zero_iff.1 (by omega)
    cases hw : wordAt s with
    | none => rw [words_none hw] at h; cases h
    | some q =>
      obtain ⟨p, m⟩ := q
      have hp := (wordAt_pos hw)
      subst h0
      rw [words_some hw] at h
      simp at h
      obtain ⟨_, rfl⟩ := h
      simp
  | succ n ih =>
    intro s hs l h
    cases hw : wordAt s with
    | none => rw [words_none hw] at h; cases h
    | some q =>
      obtain ⟨p, m⟩ := q
      have hp := (wordAt_pos hw)
      rw [words_some hw] at h
      split at h
      · injection h with h
        rw [← h]
        simp
      · split at h
        · cases hr : wordsS (s.drop (m + 1)) with
          | none => rw [hr] at h; cases h
          | some l' =>
            rw [hr] at h
            injection h with h
            have := ih (s.drop (m + 1)) (by rw [List.length_drop]; omega) l' hr
            rw [List.length_drop] at this
            rw [← h, List.length_cons]
            omega
        · cases h
set_option maxRecDepth 100000 in
set_option maxHeartbeats 8000000 in
theorem deskquotes_any (s t : Str) (w : World) (hI : DeskIn w) (hs : s.length ≤ 1073741824) (ht : t.length ≤ 1073741824) :
    Calls Tryz.prog 6 #[strV s, strV t] w fun e w' => e = .returned (.bool true) ∧ Below w.heap.size w w' := by
  have ha := Lib.hid dalive_any
  have hq1 := Lib.hid (fun W => quote_any s W (by omega))
  have hq2 := Lib.hid (fun W => rquote_any s W (by omega))
  have hu1 := Lib.hid (fun W (h : ErrIn W) => unquote_any t W (by omega) h)
  have hu2 := Lib.hid (fun W => runquote_any t W (by omega))
  obtain ⟨q, hq⟩ : ∃ q, q = quoteS s := ⟨_, rfl⟩
  rw [← hq] at hq1 hq2
  clear hq
  obtain ⟨u, hu⟩ : ∃ u, u = unquoteS t := ⟨_, rfl⟩
  unfold UnTo at hu1 hu2
  rw [← hu] at hu1 hu2
  clear hu
  unfold strV at hq1 hq2 hu1 hu2 ⊢
  replace hI := Lib.hid hI
  go_enter Tryz.func6, Tryz.ntmps6
  go_wp2_with fail
  refine (hu1.out w hI.out.err).mono ?_
  rintro e w1 ⟨rfl, hb1⟩
  replace hb1 := Lib.hid hb1
  cases u
  all_goals
    go_wp2_with fail
    refine (hu2.out w1).mono ?_
    rintro e w2 ⟨rfl, hb2⟩
    have hb2' := hb1.out.trans (hb2.mono hb1.out.size)
    clear hb2
    replace hb2' := Lib.hid hb2'
    go_wp2_with fail
    refine (hq1.out w2).mono ?_
    rintro e w3 ⟨rfl, hb3⟩
    have hb3' := hb2'.out.trans (hb3.mono hb2'.out.size)
    clear hb3
    replace hb3' := Lib.hid hb3'
    go_wp2_with fail
    refine (hq2.out w3).mono ?_
    rintro e w4 ⟨rfl, hb4⟩
    have hb4' := hb3'.out.trans (hb4.mono hb3'.out.size)
    have hal := ha.out w4 (hI.out.below hb4')
    clear hb4
    replace hb4' := Lib.hid hb4'
    go_wp2_with fail
    refine hal.mono ?_
    rintro e w5 ⟨rfl, hb5⟩
    have hb5' := hb4'.out.trans (hb5.mono hb4'.out.size)
    clear hal hb5
    replace hb5' := Lib.hid hb5'
    go_wp2_with fail
    go_returns
    exact ⟨rfl, hb5'.out⟩
set_option maxRecDepth 100000 in
set_option maxHeartbeats 8000000 in
theorem deskwords_any (s : Str) (w : World) (hI : DeskIn w) (hs : s.length ≤ 1073741824) :
    Calls Tryz.prog 3 #[strV s] w fun e w' => e = .returned (.bool true) ∧ Below w.heap.size w w' := by
  have ha := Lib.hid dalive_any
  have hu1 := Lib.hid (fun W (h : ErrIn W) => words_any s W (by omega) h)
  have hu2 := Lib.hid (fun W => rwords_any s W (by omega))
  have hsm := Lib.hid same_any
  have hfit : ∀ l, wordsS s = some l → l.length ≤ s.length + 1 := fun l h => words_len _ s (Nat.le_refl _) l h
  unfold WordsTo at hu1 hu2
  obtain ⟨u, hu⟩ : ∃ u, u = wordsS s := ⟨_, rfl⟩
  rw [← hu] at hu1 hu2 hfit
  clear hu
  unfold strV at hu1 hu2 ⊢
  replace hI := Lib.hid hI
  go_enter Tryz.func3, Tryz.ntmps3
  go_wp2_with fail
  refine (hu1.out w hI.out.err).mono ?_
  rintro e w1 ⟨hm1, hb1⟩
  cases u with
  | none =>
    obtain rfl := hm1
    replace hb1 := Lib.hid hb1
    go_wp2_with fail
    refine (hu2.out w1).mono ?_
    rintro e w2 ⟨hm2, hb2⟩
    obtain rfl := hm2
    have hb2' := hb1.out.trans (hb2.mono hb1.out.size)
    clear hb2
    replace hb2' := Lib.hid hb2'
    go_wp2_with fail
    refine (hsm.out [] none none 0 0 w2 (by simp) (fun h => by simp at h) (fun h => by simp at h)).mono ?_
    rintro e w4 ⟨rfl, hb4⟩
    have hb4' := hb2'.out.trans (hb4.mono hb2'.out.size)
    have hal := ha.out w4 (hI.out.below hb4')
    clear hb4
    replace hb4' := Lib.hid hb4'
    go_wp2_with fail
    refine hal.mono ?_
    rintro e w5 ⟨rfl, hb5⟩
    have hb5' := hb4'.out.trans (hb5.mono hb4'.out.size)
    clear hal hb5
    replace hb5' := Lib.hid hb5'
    go_wp2_with fail
    go_returns
    exact ⟨rfl, hb5'.out⟩
  | some l =>
    have hl := hfit l rfl
    obtain ⟨A, c, rfl, hown⟩ := hm1
    have hW1 := Lib.hid (WIs.of_own hown)
    replace hb1 := Lib.hid hb1
    clear hown hfit
    go_wp2_with fail
    refine (hu2.out w1).mono ?_
    rintro e w2 ⟨⟨A2, c2, rfl, hown2⟩, hb2⟩
    have hW2 := Lib.hid (WIs.of_own hown2)
    have hW3 := Lib.hid (hW1.out.below hb2)
    have hb2' := hb1.out.trans (hb2.mono hb1.out.size)
    clear hb2 hown2 hW1
    replace hb2' := Lib.hid hb2'
    go_wp2_with fail
    refine (hsm.out l A A2 c c2 w2 (by omega) hW3.out hW2.out).mono ?_
    rintro e w4 ⟨rfl, hb4⟩
    have hb4' := hb2'.out.trans (hb4.mono hb2'.out.size)
    have hal := ha.out w4 (hI.out.below hb4')
    clear hb4
    replace hb4' := Lib.hid hb4'
    go_wp2_with fail
    refine hal.mono ?_
    rintro e w5 ⟨rfl, hb5⟩
    have hb5' := hb4'.out.trans (hb5.mono hb4'.out.size)
    clear hal hb5
    replace hb5' := Lib.hid hb5'
    go_wp2_with fail
    go_returns
    exact ⟨rfl, hb5'.out⟩
end Go.Proofs.YtamdhaoglapnnaaGreatDoor
end
section
namespace Go.Proofs.YtamdhaoglapnnaaGreatDoor
open Go.ChangeShapes Go.WideShapes Go.ChangeAt Go.RowKit

/-- A slice reads as words, cell for cell. -/
def WRd (w : World) (A : Option Addr) (l : List Wrd) : Prop :=
  ∀ (k : Nat) (hk : k < l.length), ∃ g o, A = some ⟨g, o, none⟩ ∧ g < w.heap.size ∧ w.cell? ⟨g, o + k * 2, none⟩ = some (.bool l[k].1) ∧ w.cell? ⟨g, o + k * 2 + 1, none⟩ = some (strV l[k].2)
theorem WRd.below {w w' : World} {A : Option Addr} {l : List Wrd} (h : WRd w A l) (hb : Below w.heap.size w w') : WRd w' A l := fun k hk => by
  obtain ⟨g, o, e, hl, h0, h1⟩ := h k hk
  exact ⟨g, o, e, Nat.lt_of_lt_of_le hl hb.size, by rw [hb.cell hl]; exact h0, by rw [hb.cell hl]; exact h1⟩
theorem WRd.of_is {w : World} {A : Option Addr} {l : List Wrd} (h : WIs w A l) : WRd w A l := fun k hk => by
  obtain ⟨g, o, t, cs, r, e, hB, hd⟩ := h.at k hk
  have hs := blk_src hB (o + k * 2) _ r hd
  have h0 := hs 0 _ rfl
  have h1 := hs 1 _ rfl
  rw [addr_add] at h0 h1
  exact ⟨g, o, e, hB.lt, h0, h1⟩
def wsum : List Wrd → Nat
  | [] => 0
  | p :: l => p.2.length + 1 + wsum l
section
variable {H : Type} {enc : TypeId × Value → H}
theorem wsum_le (F : Nat → Wrd) (D : Nat → DataW H) : ∀ l : List Nat, (∀ k ∈ l, (F k).2.length + 1 ≤ Rows.uptoBulk (D k)) → wsum (l.map F) ≤ Rows.uptoBulkAll (l.map D)
  | [], _ => by simp [wsum]
  | k :: l, h => by
    have h1 := h k (by simp)
    have h2 := wsum_le F D l (fun x hx => h x (by simp [hx]))
    simp only [List.map_cons, wsum, Rows.uptoBulkAll]
    omega
set_option maxRecDepth 100000 in
/-- A word, out of its two cells. -/
theorem open_wd {W : World} {base fuel : Nat} {held : Bool} {cs : List Value} {y : DataW H × List MemPlace} (h : DataW.trod enc Tryz.prog W base (fun _ => true) held fuel 29 cs = some y) :
    ∃ p : Wrd, cs = [.bool p.1, strV p.2] ∧ p.2.length + 1 ≤ Rows.uptoBulk y.1 := by
  have hu := Tryz.underlying29
  have hC : Tryz.prog.cellsOf 29 = 2 := by kernel_rfl
  obtain ⟨xs, n, _, hx, hcl, hlen, hg⟩ := DataW.trod_struct hu h
  rw [hC] at hcl
  have k4 : Tryz.prog.cellsOf 4 = 1 := by kernel_rfl
  have k9 : Tryz.prog.cellsOf 9 = 1 := by kernel_rfl
  match cs, hcl, xs, hlen with
  | [c0, c1], _, [y0, y1], _ =>
    have g0 : DataW.trod enc Tryz.prog W base (fun _ => true) held n 4 [c0] = some y0 := by have := hg 0 _ rfl; simpa [k4] using this
    have g1 : DataW.trod enc Tryz.prog W base (fun _ => true) held n 9 [c1] = some y1 := by have := hg 1 _ rfl; simpa [k9] using this
    obtain ⟨b, hb, _⟩ := DataW.trod_bool Tryz.underlying4 g0
    obtain ⟨s0, e0, z0, _⟩ := DataW.trod_string Tryz.underlying9 g1
    cases e0
    cases hb
    subst z0
    refine ⟨(b, s0.data.toList), by simp [strV], ?_⟩
    rw [hx]
    simp only [List.map_cons, List.map_nil, Rows.uptoBulk, Rows.uptoBulkAll]
    omega
set_option maxRecDepth 100000 in
/-- A slice of words. -/
theorem open_wds {W : World} {base : Nat} {held : Bool} {a0 : Option Addr} {n0 c0 : Nat} {d : DataW H} {p : List MemPlace}
    (h : DataW.Trod enc Tryz.prog W base (fun _ => true) held 22 (.slice a0 n0 c0) d p) :
    ∃ l : List Wrd, n0 = l.length ∧ WRd W a0 l ∧ wsum l ≤ Rows.uptoBulk d := by
  obtain ⟨fuel, hf⟩ := h
  have hv : (Value.slice a0 n0 c0).cells.toList = [Value.slice a0 n0 c0] := rfl
  have hC : Tryz.prog.cellsOf 29 = 2 := by kernel_rfl
  rw [hv] at hf
  rcases Go.Deep.open_slice Tryz.underlying22 hf with ⟨hcs, hx⟩ | ⟨a, len, cap, m, n, D, Pl, hcs, hb, hl, hm, hmm, hx, hi⟩
  · cases hcs
    exact ⟨[], rfl, fun k hk => absurd hk (by simp), by simp [wsum]⟩
  · cases hcs
    simp only [Prod.mk.injEq] at hx
    obtain ⟨rfl, rfl⟩ := hx
    simp only [if_true] at hmm
    subst hmm
    have hall : ∀ i, ∃ x : Wrd, i < n0 → W.cell? (a.add (i * 2)) = some (.bool x.1) ∧ W.cell? (a.add (i * 2 + 1)) = some (strV x.2) ∧ x.2.length + 1 ≤ Rows.uptoBulk (D i) := by
      intro i
      by_cases him : i < n0
      · obtain ⟨cs', hc, ht⟩ := hi i (by omega)
        rw [hC] at hc
        obtain ⟨x, rfl, hbk⟩ := open_wd ht
        obtain ⟨_, _, hat⟩ := World.cells?_some hc
        have h0 := hat 0 (by omega)
        have h1 := hat 1 (by omega)
        rw [Go.Deep.add_add] at h0 h1
        exact ⟨x, fun _ => ⟨h0, h1, hbk⟩⟩
      · exact ⟨(false, []), fun h => absurd h him⟩
    obtain ⟨F, hF⟩ := Classical.axiomOfChoice hall
    refine ⟨(List.range n0).map F, by simp, fun k hk => ?_, ?_⟩
    · have hkn : k < n0 := by simpa using hk
      obtain ⟨g, o, spot⟩ := a
      obtain ⟨h0, h1, _⟩ := hF k hkn
      have hs : spot = none := by
        have h00 := (hF 0 (by omega)).1
        simpa [Addr.add] using World.cell?_spot h00
      subst hs
      rw [addr_add] at h0 h1
      have hlt := World.block_lt_of_cell? _ _ h0
      refine ⟨g, o, rfl, hlt, ?_, ?_⟩
      · simpa using h0
      · simpa [Nat.add_assoc] using h1
    · have h1 := wsum_le F D (List.range n0) (fun k hk => (hF k (List.mem_range.1 hk)).2.2)
      simp only [Rows.uptoBulk]
      omega
end
end Go.Proofs.YtamdhaoglapnnaaGreatDoor
end
section
namespace Go.Proofs.YtamdhaoglapnnaaGreatDoor
open Go.RowKit

section
variable {P : Program}
theorem wpQuiet_load_cells {ops : Array Oper} {rest : List Oper} {op : Oper} {a : Act} {C : World → Prop} {Q : Act → Prop} (ty : TypeId) (x : Operand) (ho : op.op = .load ty x) (hgd : op.guard = none)
    (g o : Nat) (hx : a.eval x = .pointer (some ⟨g, o, none⟩)) (part : List Value) (hg : ∀ w, C w → ∀ j v, part[j]? = some v → w.cell? ⟨g, o + j, none⟩ = some v) (d : TypeDesc)
    (hu : P.underlying ty = some d) (hd : d.isRow = true) (hi : (P.info? ty).map (·.size) = some part.length)
    (h : wpQuiet P ops C Q rest (a.put op.dst (.agg part.toArray))) : wpQuiet P ops C Q (op :: rest) a := by
  refine wpQuiet_run _ ho hgd _ (fun w hw => ?_) h
  unfold execOp
  simp only [ho, hx, Instr.loadAt, Instr.sureAddr, Sem.run_bind, Sem.run_pure, Result.andThen_ok, run_loadVar_mid w g o ty part d (hg w hw) hu hd hi]
end
theorem cells_two {w : World} {g o : Nat} {a b : Value} (h0 : w.cell? ⟨g, o, none⟩ = some a) (h1 : w.cell? ⟨g, o + 1, none⟩ = some b) : ∀ j v, [a, b][j]? = some v → w.cell? ⟨g, o + j, none⟩ = some v := by
  intro j v h
  match j, h with
  | 0, h => simp at h; subst h; exact h0
  | 1, h => simp at h; subst h; exact h1
  | j + 2, h => simp at h
set_option maxRecDepth 100000 in
set_option maxHeartbeats 8000000 in
/-- Words are the same as themselves, wherever they lie. -/
theorem same2_any (l : List Wrd) (A B : Option Addr) (ca cb : Nat) (w : World) (hl : l.length ≤ 4611686018427387904) (hA : WRd w A l) (hB : WRd w B l) :
    Calls Tryz.prog 10 #[.slice A l.length ca, .slice B l.length cb] w fun e w' => e = .returned (.bool true) ∧ Below w.heap.size w w' := by
  replace hA := Lib.hid hA
  replace hB := Lib.hid hB
  go_enter Tryz.func10, Tryz.ntmps10
  go_wp2_with fail
  go_loopw [13] (fun i wr => ∃ k : Nat, k ≤ l.length ∧ i = .int .i64 k ∧ Below w.heap.size w wr) (fun i _ => l.length - (intOf i).toNat)
  case atStart => exact ⟨0, by omega, rfl, Below.refl _ _⟩
  case round =>
    obtain ⟨k, hk, rfl, hb⟩ := hrel
    by_cases hlt : k < l.length
    · obtain ⟨g, o, rfl, _, c0, c1⟩ := (hA.out.below hb) k hlt
      obtain ⟨g', o', rfl, _, d0, d1⟩ := (hB.out.below hb) k hlt
      obtain ⟨q, hq⟩ : ∃ q, q = l[k].1 := ⟨_, rfl⟩
      obtain ⟨s, hs⟩ : ∃ s, s = l[k].2 := ⟨_, rfl⟩
      rw [← hq] at c0 d0
      rw [← hs] at c1 d1
      clear hq hs
      have i0 : (0 : Int) ≤ (k : Int) := by omega
      have i1 : (k : Int) < (l.length : Int) := by omega
      have hX : Hid (∀ w', (∃ n, w' = wr.drewN n) → ∀ j v, [Value.bool q, strV s][j]? = some v → w'.cell? ⟨g, o + k * 2 + j, none⟩ = some v) := Lib.hid (by rintro _ ⟨n, rfl⟩; exact cells_two c0 c1)
      have hY : Hid (∀ w', (∃ n, w' = wr.drewN n) → ∀ j v, [Value.bool q, strV s][j]? = some v → w'.cell? ⟨g', o' + k * 2 + j, none⟩ = some v) := Lib.hid (by rintro _ ⟨n, rfl⟩; exact cells_two d0 d1)
      have hb' : Hid (∀ n, Below w.heap.size w (wr.drewN n)) := Lib.hid (fun n => below_drewN hb n)
      clear c0 c1 d0 d1 hb
      go_wp2_with fail
      refine quiet_tail 8 (by kernel_rfl) (by kernel_rfl) ?_
      simp only [List.take_succ_cons, List.take_zero, List.drop_succ_cons, List.drop_zero]
      repeat (first
        | go_big_quiet_step (fail)
        | (refine wpQuiet_load_cells 29 (.tmp 18) rfl rfl g (o + k * 2) rfl [.bool q, strV s] hX.out _ Tryz.underlying29 rfl wordSz ?_; go_frame)
        | (refine wpQuiet_load_cells 29 (.tmp 22) rfl rfl g' (o' + k * 2) rfl [.bool q, strV s] hY.out _ Tryz.underlying29 rfl wordSz ?_; go_frame))
      refine wpQuiet_nil ?_
      rintro _ ⟨nq, rfl⟩
      refine wpList_run _ rfl rfl _ (exec_neq_word _ rfl q s rfl rfl) ?_
      go_wp2_with fail
      go_roundw
      case rel => exact ⟨k + 1, by omega, by go_num, hb'.out nq⟩
      case measure => simp [intOf]; omega
    · go_wp2_with fail
      go_returns
      exact ⟨rfl, hb⟩
/-! Lines of words, plainly. -/
theorem wordT_len (p : Wrd) : (wordT p).length ≤ 4 * p.2.length + 2 := by
  unfold wordT
  have := quotes_len p.2
  split
  · simp only [quoteS, List.length_cons, List.length_append, List.length_nil]; omega
  · omega
theorem lineW_len : ∀ l : List Wrd, (lineW l).length ≤ 4 * wsum l
  | [] => by simp [lineW]
  | [p] => by have := wordT_len p; simp only [lineW, wsum]; omega
  | p :: q :: l => by
    have h1 := wordT_len p
    have h2 := lineW_len (q :: l)
    simp only [wsum] at h2
    simp only [lineW, wsum, List.length_append, List.length_cons]
    omega
theorem lineW_snoc : ∀ (l : List Wrd) (p : Wrd), lineW (l ++ [p]) = (if l = [] then [] else lineW l ++ [32]) ++ wordT p
  | [], p => by simp [lineW]
  | [a], p => by simp [lineW]
  | a :: b :: l, p => by
    have h := lineW_snoc (b :: l) p
    simp only [List.cons_append] at h ⊢
    simp only [lineW, h]
    simp
theorem wsum_app : ∀ (l m : List Wrd), wsum (l ++ m) = wsum l + wsum m
  | [], m => by simp [wsum]
  | p :: l, m => by simp only [List.cons_append, wsum, wsum_app l m]; omega
theorem wsum_take (l : List Wrd) (k : Nat) : wsum (l.take k) ≤ wsum l := by
  have h := wsum_app (l.take k) (l.drop k)
  rw [List.take_append_drop] at h
  omega
theorem wsum_at {l : List Wrd} {k : Nat} (h : k < l.length) : l[k].2.length + 1 ≤ wsum l := by
  have h1 := wsum_app (l.take k) (l.drop k)
  rw [List.take_append_drop, List.drop_eq_getElem_cons h] at h1
  simp only [wsum] at h1
  omega
theorem wsum_len : ∀ l : List Wrd, l.length ≤ wsum l
  | [] => by simp
  | p :: l => by have := wsum_len l; simp only [wsum, List.length_cons]; omega
theorem bareB_cases3 (c : UInt8) : (bareB c = true ∧ decide (bv c ≤ 32) = false ∧ decide (126 < bv c) = false ∧ (bv c == 34) = false) ∨ (decide (bv c ≤ 32) = true ∨ (decide (bv c ≤ 32) = false ∧ (decide (126 < bv c) = true ∨ (decide (126 < bv c) = false ∧ (bv c == 34) = true)))) := by
  rcases bareB_cases c with ⟨h, h1, h2, h3⟩ | ⟨h, h'⟩
  · exact .inl ⟨h, h2, h3, h1⟩
  · right
    generalize bv c = x at h'
    simp at h' ⊢
    omega
theorem str_ne {t : Str} (h : t ≠ []) : t.isEmpty = false := by
  cases t with
  | nil => exact absurd rfl h
  | cons c t => rfl
/-- What a line becomes. -/
structure LineAt (l : List Wrd) (k : Nat) (x y : Str) : Prop where
  first : k = 0 → lineW (l.take (k + 1)) = x ++ y ∧ x = []
  later : 0 < k → lineW (l.take (k + 1)) = (x ++ [32]) ++ y
  len : x.length + 1 + y.length ≤ 4 * wsum l + 1
  ylen : y.length ≤ 4 * wsum l
theorem LineAt.of {l : List Wrd} {k : Nat} (h : k < l.length) : LineAt l k (lineW (l.take k)) (wordT l[k]) := by
  have e : l.take (k + 1) = l.take k ++ [l[k]] := List.take_succ_eq_append_getElem h
  have hs := lineW_snoc (l.take k) l[k]
  have hn : lineW (l.take (k + 1)) = (if l.take k = [] then [] else lineW (l.take k) ++ [32]) ++ wordT l[k] := by rw [e]; exact hs
  have h1 := lineW_len (l.take (k + 1))
  have h2 := wsum_take l (k + 1)
  rw [hn] at h1
  have h3 := wordT_len l[k]
  have h4 := wsum_at h
  refine ⟨fun hk => ?_, fun hk => ?_, ?_, by omega⟩
  · subst hk
    rw [hn]
    simp [lineW]
  · rw [hn, if_neg (by
      intro e
      have := congrArg List.length e
      rw [List.length_take, List.length_nil] at this
      omega)]
  · by_cases hk : l.take k = []
    · rw [hk]
      simp only [lineW, List.length_nil]
      omega
    · rw [if_neg hk] at h1
      simp only [List.length_append, List.length_cons, List.length_nil] at h1
      omega
theorem oks_snoc {l : List Wrd} {k : Nat} (h : k < l.length) (h0 : ∀ p ∈ l.take k, wordOk p = true) (h1 : wordOk l[k] = true) : ∀ p ∈ l.take (k + 1), wordOk p = true := by
  rw [List.take_succ_eq_append_getElem h]
  intro p hp
  rcases List.mem_append.1 hp with hp | hp
  · exact h0 p hp
  · rw [List.mem_singleton.1 hp]
    exact h1
set_option maxRecDepth 100000 in
set_option maxHeartbeats 16000000 in
theorem deskjoins_any (l : List Wrd) (A : Option Addr) (c : Nat) (w : World) (hI : DeskIn w) (hA : WRd w A l) (hl : wsum l ≤ 1048576) :
    Calls Tryz.prog 4 #[.slice A l.length c] w fun e w' => e = .returned (.bool true) ∧ Below w.heap.size w w' := by
  have ha := Lib.hid dalive_any
  have hsm := Lib.hid same2_any
  have hll := wsum_len l
  have hlw := lineW_len l
  have hwl : Hid (l ≠ [] → (∀ p ∈ l, wordOk p = true) → wordsS (lineW l) = some l) := Lib.hid (words_line l)
  replace hI := Lib.hid hI
  replace hA := Lib.hid hA
  go_enter Tryz.func4, Tryz.ntmps4
  by_cases hl0 : l.length = 0
  · rw [hl0]
    have hal := ha.out w hI.out
    go_wp2_with fail
    refine hal.mono ?_
    rintro e w5 ⟨rfl, hb5⟩
    replace hb5 := Lib.hid hb5
    clear hal
    go_wp2_with fail
    go_returns
    exact ⟨rfl, hb5.out⟩
  · have hz0 : ((l.length : Int) == 0) = false := beq_eq_false_iff_ne.2 (by omega)
    go_wp2_with fail
    go_loopw [3, 16] (fun s i wr => ∃ k : Nat, k ≤ l.length ∧ s = .string ⟨(lineW (l.take k)).toArray⟩ ∧ i = .int .i64 k ∧ Hid (∀ p ∈ l.take k, wordOk p = true) ∧ Below w.heap.size w wr) (fun _ i _ => l.length - (intOf i).toNat)
    case atStart => exact ⟨0, by omega, rfl, rfl, Lib.hid (by simp), Below.refl _ _⟩
    case round =>
      obtain ⟨k, hk, rfl, rfl, hok, hb⟩ := hrel
      by_cases hlt : k < l.length
      · obtain ⟨g, o, rfl, _, c0, c1⟩ := (hA.out.below hb) k hlt
        have hLA := Lib.hid (LineAt.of hlt)
        have hoks := Lib.hid (fun h1 => oks_snoc hlt hok.out h1)
        have hpl := wsum_at hlt
        have hxy := hLA.out.len
        have hyl := hLA.out.ylen
        have hcc := Lib.hid (cells_two c0 c1)
        clear c0 c1
        obtain ⟨x, hx⟩ : ∃ x, x = lineW (l.take k) := ⟨_, rfl⟩
        rw [← hx] at hLA hxy ⊢
        clear hx
        obtain ⟨⟨q, t⟩, hp⟩ : ∃ p, p = l[k] := ⟨_, rfl⟩
        rw [← hp] at hLA hoks hpl hxy hyl hcc
        clear hp hok
        replace hb := Lib.hid hb
        have hsr := hb.out.size
        have hxz : (⟨x.toArray⟩ : ByteArray).size = x.length := strLn x
        simp only at hpl
        go_wp2_with (first
          | (refine wpList_load_mid rfl 29 (.tmp 19) rfl g (o + k * 2) rfl [.bool q, strV t] _ hcc.out Tryz.underlying29 rfl wordSz ?_
             go_frame)
          | (refine wpList_store_blk rfl 29 (.tmp 5) (.tmp 20) rfl wr.heap.size [.bool q, strV t] rfl rfl 29 [.bool false, .string ⟨#[]⟩] (Blk.new_at rfl) rfl wordSz (by simp [strV, Value.oneCell']) ?_
             generalize hW4 : World.setRow (wr.alloc _) wr.heap.size _ = w4
             have hb4 : Below wr.heap.size wr w4 := by rw [← hW4]; exact below_setRow ((Below.refl _ _).alloc (Nat.le_refl _) _) (Nat.le_refl _) _
             have hX4 : Blk w4 wr.heap.size 29 [.bool q, strV t] := by rw [← hW4]; exact (Blk.new_at (cs := [.bool false, .string ⟨#[]⟩]) rfl).setRow_same _
             have z0 : w4.cell? ⟨wr.heap.size, 0, none⟩ = some (.bool q) := hX4.cell 0
             have z1 : w4.cell? ⟨wr.heap.size, 1, none⟩ = some (.string ⟨t.toArray⟩) := hX4.cell 1
             have hb4' := Lib.hid (hb.out.trans (hb4.mono hsr))
             clear hW4 hX4 hb4 hb
             cases q
             all_goals go_frame)
          | fail)
        · have htz : (⟨t.toArray⟩ : ByteArray).size = t.length := strLn t
          have hwt : wordT (false, t) = t := rfl
          rw [hwt] at hLA hxy hyl
          have hok2 : Hid (t.all bareB = true → t ≠ [] → wordOk (false, t) = true) := Lib.hid (fun h1 h2 => by simp only [wordOk, Bool.false_or, Bool.and_eq_true, decide_eq_true_eq]; exact ⟨h1, h2⟩)
          have hal := Lib.hid (ha.out w4 (hI.out.below hb4'.out))
          have hs4 := hb4'.out.size
          clear hwt z0 z1
          go_loop [7] (fun i => ∃ j : Nat, j ≤ t.length ∧ i = .int .i64 j ∧ Hid ((t.take j).all bareB = true)) (fun i => t.length - (intOf i).toNat)
          case atStart => exact ⟨0, by omega, rfl, Lib.hid (by simp)⟩
          case round =>
            obtain ⟨j, hj, rfl, hall⟩ := hrel
            by_cases hjt : j < t.length
            · have hidx := index_strB t j hjt
              rcases bareB_cases3 t[j] with ⟨hbr, b1, b2, b3⟩ | hbr
              · have hn : Hid ((t.take (j + 1)).all bareB = true) := Lib.hid (by
                  rw [take_at hjt, List.all_append, hall.out]
                  simp [hbr])
                clear hall hbr
                generalize bv t[j] = u at hidx b1 b2 b3
                go_wp2_with fail
                refine ⟨⟨j + 1, by omega, by go_num, hn⟩, ?_⟩
                simp [intOf]
                omega
              · clear hall
                generalize bv t[j] = u at hidx hbr
                rcases hbr with b1 | ⟨b1, b2 | ⟨b2, b3⟩⟩
                all_goals
                  go_wp2_with fail
                  refine hal.out.mono ?_
                  rintro e w5 ⟨rfl, hb5⟩
                  have hb5' := Lib.hid (hb4'.out.trans (hb5.mono hs4))
                  clear hb5
                  go_wp2_with fail
                  go_ret
                  exact ⟨rfl, hb5'.out⟩
            · obtain rfl : j = t.length := by omega
              rw [List.take_length] at hall
              by_cases ht0 : t = []
              · subst ht0
                go_wp2_with fail
                refine hal.out.mono ?_
                rintro e w5 ⟨rfl, hb5⟩
                have hb5' := Lib.hid (hb4'.out.trans (hb5.mono hs4))
                clear hb5
                go_wp2_with fail
                go_ret
                exact ⟨rfl, hb5'.out⟩
              · replace hoks := Lib.hid (hoks.out (hok2.out hall.out ht0))
                have hne := str_ne ht0
                clear hal hall hok2
                rcases Nat.eq_zero_or_pos k with hk0 | hk0
                · obtain ⟨h1, rfl⟩ := hLA.out.first hk0
                  subst hk0
                  have hcat : Hid ((⟨([] : Str).toArray⟩ : ByteArray) ++ ⟨t.toArray⟩ = ⟨([] ++ t).toArray⟩) := Lib.hid (cat_strR [] t)
                  replace h1 := Lib.hid h1
                  go_wp2_with fail
                  refine ⟨⟨1, by omega, by rw [show (1 : Nat) = 0 + 1 from rfl, h1.out, ← hcat.out], by go_num, hoks, hb4'.out⟩, ?_⟩
                  simp [intOf]; omega
                · have h1 := Lib.hid (hLA.out.later hk0)
                  have hcat : Hid ((⟨x.toArray⟩ : ByteArray) ++ ⟨#[32]⟩ ++ ⟨t.toArray⟩ = ⟨((x ++ [32]) ++ t).toArray⟩) := Lib.hid (by
                    rw [show (⟨#[32]⟩ : ByteArray) = ⟨([32] : Str).toArray⟩ from rfl, cat_strR, cat_strR])
                  have hgt : decide ((0 : Int) < (k : Int)) = true := by simp; omega
                  go_wp2_with fail
                  refine ⟨⟨k + 1, by omega, by rw [h1.out, ← hcat.out], by go_num, hoks, hb4'.out⟩, ?_⟩
                  simp [intOf]; omega
        · have hquo := Lib.hid (fun W => quote_any t W (by omega))
          have hwt : wordT (true, t) = quoteS t := rfl
          rw [hwt] at hLA hxy hyl
          replace hoks := Lib.hid (hoks.out rfl)
          obtain ⟨y, hy⟩ : ∃ y, y = quoteS t := ⟨_, rfl⟩
          rw [← hy] at hquo hLA hxy hyl
          have hyz : (⟨y.toArray⟩ : ByteArray).size = y.length := strLn y
          have hfin := Lib.hid (hLA.out)
          unfold strV at hquo
          clear hwt hy hpl
          have hs4 := hb4'.out.size
          refine (hquo.out w4).mono ?_
          rintro e w5 ⟨rfl, hb5⟩
          have hb5' := Lib.hid (hb4'.out.trans (hb5.mono hs4))
          clear hb5 hb4' z0 z1 hquo
          rcases Nat.eq_zero_or_pos k with hk0 | hk0
          · obtain ⟨h1, rfl⟩ := hLA.out.first hk0
            subst hk0
            have hcat : Hid ((⟨([] : Str).toArray⟩ : ByteArray) ++ ⟨y.toArray⟩ = ⟨([] ++ y).toArray⟩) := Lib.hid (cat_strR [] y)
            replace h1 := Lib.hid h1
            go_wp2_with fail
            go_roundw
            case rel => exact ⟨1, by omega, by rw [show (1 : Nat) = 0 + 1 from rfl, h1.out, ← hcat.out], by go_num, hoks, hb5'.out⟩
            case measure => simp [intOf]; omega
          · have h1 := Lib.hid (hLA.out.later hk0)
            have hcat : Hid ((⟨x.toArray⟩ : ByteArray) ++ ⟨#[32]⟩ ++ ⟨y.toArray⟩ = ⟨((x ++ [32]) ++ y).toArray⟩) := Lib.hid (by
              rw [show (⟨#[32]⟩ : ByteArray) = ⟨([32] : Str).toArray⟩ from rfl, cat_strR, cat_strR])
            have hgt : decide ((0 : Int) < (k : Int)) = true := by simp; omega
            go_wp2_with fail
            go_roundw
            case rel => exact ⟨k + 1, by omega, by rw [h1.out, ← hcat.out], by go_num, hoks, hb5'.out⟩
            case measure => simp [intOf]; omega
      · obtain rfl : k = l.length := by omega
        rw [List.take_length] at hok ⊢
        have hw := hwl.out (fun e => by rw [e] at hl0; exact hl0 rfl) hok.out
        have hwd := words_any (lineW l) wr (by omega) (hI.out.below hb).err
        unfold WordsTo at hwd
        rw [hw] at hwd
        obtain ⟨x, hx⟩ : ∃ x, x = lineW l := ⟨_, rfl⟩
        rw [← hx] at hwd hlw ⊢
        unfold strV at hwd
        have hAr := Lib.hid (hA.out.below hb)
        replace hb := Lib.hid hb
        clear hx hw hok hwl
        go_wp2_with fail
        refine hwd.mono ?_
        rintro e w2 ⟨⟨A2, c2, rfl, hown2⟩, hb2⟩
        have hW2 := Lib.hid (WRd.of_is (WIs.of_own hown2))
        have hA2 := Lib.hid (hAr.out.below hb2)
        have hb2' := Lib.hid (hb.out.trans (hb2.mono hb.out.size))
        clear hb2 hown2 hAr hwd
        go_wp2_with fail
        refine (hsm.out l A A2 c c2 w2 (by omega) hA2.out hW2.out).mono ?_
        rintro e w4 ⟨rfl, hb4⟩
        have hb4' := hb2'.out.trans (hb4.mono hb2'.out.size)
        have hal := ha.out w4 (hI.out.below hb4')
        clear hb4
        replace hb4' := Lib.hid hb4'
        go_wp2_with fail
        refine hal.mono ?_
        rintro e w5 ⟨rfl, hb5⟩
        have hb5' := hb4'.out.trans (hb5.mono hb4'.out.size)
        clear hal hb5
        replace hb5' := Lib.hid hb5'
        go_wp2_with fail
        go_returns
        exact ⟨rfl, hb5'.out⟩
end Go.Proofs.YtamdhaoglapnnaaGreatDoor
end
