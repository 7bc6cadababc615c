/- The walk of the law RefsAtomic. -/
import Derived.Test.YtlenmkemjaaaoaaDoorRfFs
import Derived.Deep.DeepCutAuto
namespace Go.Proofs.YtlenmkemjaaaoaaDoor
open Go.RowKit

/-- Names that were broken off. -/
structure Broke (w0 : World) (base rb g : Nat) (v : Value) (S : DS) (T : Tab) (W : World) : Prop extends Ses w0 base g S W where
  low : base ≤ rb
  ref : Blk W rb 69 [.pointer (some ⟨g, 0, none⟩), v, .bool true]
  own : OwnTab W base v T
def FuseDo (w0 : World) (base rb g : Nat) (v : Value) (S : DS) (X : Option Str) (T : Tab) (C : List Chg) (W : World) (e : Ending) (W' : World) : Prop :=
  Keeps W W' ∧ ((e = .returned (.int .i64 (applyE T C)) ∧ applyE T C ≠ 0 ∧ Ref w0 base rb g v S T W') ∨
    (e = .returned (.int .i64 0) ∧ applyE T C = 0 ∧ ∃ v' S' X' f', Ref w0 base rb g v' S' (applyT T C) W' ∧ LiveF S' X' f' ∧ TextOf X' (applyT T C) ∧ S'.room = 1048576) ∨
    (e = .returned (.int .i64 15) ∧ applyE T C = 0 ∧ ∃ S', Broke w0 base rb g v S' T W' ∧ After S' X (some (printS (applyT T C)))))
theorem do_fuse {w0 : World} {base rb g : Nat} {v u : Value} {S : DS} {T : Tab} {W : World} {X : Option Str} {C : List Chg} {f : Int} {ok' : Nat → Prop} (h : Ref w0 base rb g v S T W) (hS : LiveF S X f) (hX : TextOf X T) (hroom : S.room = 1048576)
    (h' : ChsIs W ok' u C) (hc : CFit C) : Calls Tryd.prog 27 #[.pointer (some ⟨rb, 0, none⟩), u] W (FuseDo w0 base rb g v S X T C W) := by
  obtain ⟨L, ⟨bn, bs, pv, hD, rfl⟩, hL⟩ := h.disk
  obtain ⟨hm, hh⟩ := hX.tok
  have hf := tfit_of hm hh
  have hd : cOk C := hc.cok
  by_cases hE : applyE T C ≠ 0 ∨ C = []
  · refine (do_early rb g v u T C _ ok' W h.ref h.own.tab hf h' hc hE).mono ?_
    rintro e W' ⟨he, hb⟩
    refine ⟨Keeps.below hb, ?_⟩
    have hR := h.below hb
    by_cases h0 : applyE T C = 0
    · have hC : C = [] := hE.resolve_left (fun hn => hn h0)
      have hT : applyT T C = T := by unfold applyT; rw [if_pos h0, hC]; rfl
      rw [hT]
      exact .inr (.inl ⟨by rw [he, h0], h0, v, S, X, f, hR, hS, hX, hroom⟩)
    · exact .inl ⟨he, h0, hR⟩
  · have hE0 : applyE T C = 0 := Decidable.byContradiction (fun hn => hE (.inl hn))
    have hC : C ≠ [] := fun hn => hE (.inr hn)
    obtain ⟨hm2, hh2⟩ := apply_may hE0 hh hd
    have hl1 := print_small hm2 hh2
    have hP : printT (applyT T C) = printS (applyT T C) := by unfold printT; rw [if_pos hm2]
    have hch := hS.chain hroom hX.len (t := printT (applyT T C)) (by rw [hP]; exact hl1)
    refine (do_late rb g bn bs pv v u S T C _ ok' W h.ref h.own.tab hf h' hc hE0 hC (tfit_of hm2 hh2) (by rw [hP]; omega) hD hch.a0 hch.a1 hch.a2 hch.a3).mono ?_
    rintro e W' ⟨he, ht, ⟨L', hD', hL'⟩, nv, hB, hO⟩
    have hb : ∀ i ∈ rb :: foot g bn bs pv, base ≤ i := fun i hi => by
      rcases List.mem_cons.1 hi with rfl | hi
      · exact h.low
      · exact hL i hi
    have hK : Keeps W W' := fun k t cs hBk a b c => hBk.touch ht (fun hm => by
      rcases List.mem_cons.1 hm with rfl | hm
      · exact a (hBk.unique h.ref)
      · exact hD.tag hBk b c hm)
    have hbase : ∀ i ∈ L', base ≤ i := fun i hi => by
      rcases hL' i hi with h1 | h1
      · exact hL i h1
      · exact Nat.le_trans h.size h1
    have hbel := h.bel.trans (ht.below h.size hb)
    have hsz := Nat.le_trans h.size ht.size
    rcases hch.res with ⟨q1, q2, q3⟩ | ⟨q1, q2⟩
    · rw [q1] at he hB hO
      rw [if_pos rfl] at hO
      exact ⟨hK, .inr (.inl ⟨he, hE0, nv, _, some (printT (applyT T C)), f - 4, ⟨⟨hbel, hsz, L', hD', hbase⟩, h.low, hB, hO.lower h.size⟩, q2, .inr ⟨by rw [hP], hm2, hh2⟩, q3.trans hroom⟩)⟩
    · rw [q1] at he hB hO
      rw [if_neg (by decide)] at hO
      subst hO
      rw [hP] at q2
      refine ⟨hK, .inr (.inr ⟨he, hE0, _, ⟨⟨hbel, hsz, L', hD', hbase⟩, h.low, hB, h.own.keeps hK⟩, ?_⟩)⟩
      rw [hP]
      exact q2
theorem crash_after {w0 : World} {base g : Nat} {S : DS} {W : World} {X Y : Option Str} (h : Ses w0 base g S W) (hA : After S X Y) {l : List Int} {A : Option Addr} {c : Nat}
    (hl : Nums W (· < base) A l) (hf : NmFit l) :
    Calls Tryd.prog 28 #[.pointer (some ⟨g, 0, none⟩), .slice A l.length c] W fun e W' => e = .returned (.tuple #[]) ∧ Ses w0 base g (S.crash l) W' ∧ Keeps W W' := by
  obtain ⟨L, ⟨bn, bs, pv, hD, rfl⟩, hL⟩ := h.disk
  have h1 := hA.few
  have h2 := hA.pend
  refine (crash_any g bn bs pv S l A c W hD hA.fit (by omega) (Rd.stay hl (fun _ _ _ => rfl) (fun b hb hlt => ⟨fun hm => by have := hL b hm; omega, hlt⟩)) hf.max (by have := hf.len; omega)).mono ?_
  rintro e W' ⟨he, ht⟩
  exact ⟨he, h.turned hL ht, Keeps.touch hD ht.1⟩
theorem after_asked {S : DS} {X Y : Option Str} (hA : After S X Y) (l : List Int) : Asked (S.crash l) := by
  have h := hA.end_ l
  have hh : StrMap (crashTo S.pend l S.sure) ∧ fSum (crashTo S.pend l S.sure) ≤ 300000 ∧ fLen (crashTo S.pend l S.sure) ≤ 10 := by
    rcases h with h | h <;> exact ⟨h.map, h.sum, h.len⟩
  obtain ⟨h1, h2, h3⟩ := hh
  have hr := hA.room
  exact ⟨⟨⟨h1, h1, (fun o ho => by cases ho), hA.fit.room0, hA.fit.room1, Int.le_refl _, show (-1 : Int) ≤ 1000000 by decide⟩, by show ((fSum (crashTo S.pend l S.sure) : Nat) : Int) ≤ S.room; omega, by show fLen (crashTo S.pend l S.sure) ≤ 600; omega, by show fLen (crashTo S.pend l S.sure) ≤ 600; omega⟩, by show ([] : List DOp).length < _; simp⟩
/-- Names behind the crash. -/
theorem open_after {w0 : World} {base g : Nat} {S : DS} {W : World} {X Y : Option Str} {T R : Tab} {l : List Int} (h : Ses w0 base g (S.crash l) W) (hA : After S X Y) (hX : TextOf X T) (hY : TextOf Y R) :
    Calls Tryd.prog 26 #[.pointer (some ⟨g, 0, none⟩)] W fun e W' => ∃ rb v, e = .returned (.tuple #[.pointer (some ⟨rb, 0, none⟩), .int .i64 0]) ∧ Below base w0 W' ∧ Keeps W W' ∧ ∃ Q, (Q = T ∨ Q = R) ∧ mayE Q = 0 ∧ tOk Q ∧ Blk W' rb 69 [.pointer (some ⟨g, 0, none⟩), v, .bool false] ∧ OwnTab W' W.heap.size v Q := by
  obtain ⟨L, ⟨bn, bs, pv, hD, rfl⟩, hL⟩ := h.disk
  have hE : ∃ Q, (Q = T ∨ Q = R) ∧ mayE Q = 0 ∧ tOk Q ∧ openE (S.crash l) = 0 ∧ openT (S.crash l) = Q ∧ ((openS (S.crash l)).readT fileN).length ≤ 1073741824 := by
    rcases hA.end_ l with h1 | h1
    · obtain ⟨q1, q2, q3⟩ := half_open h1 hX (S := S.crash l) rfl rfl rfl
      exact ⟨T, .inl rfl, hX.tok.1, hX.tok.2, q1, q2, q3⟩
    · obtain ⟨q1, q2, q3⟩ := half_open h1 hY (S := S.crash l) rfl rfl rfl
      exact ⟨R, .inr rfl, hY.tok.1, hY.tok.2, q1, q2, q3⟩
  obtain ⟨Q, hQ, hm, ho, q1, q2, q3⟩ := hE
  refine (open_any g bn bs pv _ W hD (after_asked hA l) q3).mono ?_
  rintro e W' ⟨ht, hR⟩
  rw [q1, if_pos rfl, q2] at hR
  obtain ⟨rb, tv, he, hlo, hB, hO⟩ := hR
  have hs := h.turned hL ht
  exact ⟨rb, tv, he, hs.bel, Keeps.touch hD ht.1, Q, hQ, hm, ho, hB, hO⟩
theorem Ses.fuse {w0 : World} {base g : Nat} {S : DS} {W : World} (h : Ses w0 base g S W) (n : Int) :
    Calls Tryd.prog 31 #[.pointer (some ⟨g, 0, none⟩), .int .i64 n] W fun e W' => e = .returned (.tuple #[]) ∧ Ses w0 base g { S with fuse := max n (-1) } W' ∧ Keeps2 W W' := by
  obtain ⟨L, ⟨bn, bs, pv, hD, rfl⟩, hL⟩ := h.disk
  refine (fuse_any g bn bs pv S n W hD).mono ?_
  rintro e W' ⟨he, hD', ht⟩
  have hg : base ≤ g := hL g (by simp [foot])
  refine ⟨he, ⟨h.bel.trans (ht.below h.size (by simpa using hg)), Nat.le_trans h.size ht.size, _, ⟨bn, bs, pv, hD', rfl⟩, hL⟩, fun k t cs hB h1 h2 => hB.touch ht (fun hm => ?_)⟩
  simp only [List.mem_singleton] at hm
  subst hm
  exact h1 (hB.unique hD.blk)
theorem Live.fuse40 {S : DS} {X : Option Str} (h : Live S X) {n : Int} (h0 : 0 ≤ n) (h1 : n ≤ 1000) : LiveF { S with fuse := max n (-1) } X n := by
  refine ⟨?_, by show max n (-1) = n; omega, h0, h1⟩
  have e : ({ ({ S with fuse := max n (-1) } : DS) with fuse := -1 } : DS) = S := by
    have := h.fuse
    cases S
    simp only at this
    subst this
    rfl
  rw [e]; exact h
theorem rsame_ne {T U : Tab} {v u : Value} {ok ok' : Nat → Prop} (w : World) (h : TabIs w ok v T) (h' : TabIs w ok' u U) (hf : TFit T) (hf' : TFit U) (hn : T ≠ U) :
    Calls Tryd.prog 19 #[v, u] w fun e w' => e = .returned (.bool false) ∧ Below w.heap.size w w' :=
  (rsame_any T U v u ok ok' w h h' hf hf').mono fun e w' ⟨h1, h2⟩ => ⟨by rw [h1, decide_eq_false hn], h2⟩
theorem Broke.below {w0 : World} {base rb g : Nat} {v : Value} {S : DS} {T : Tab} {W W' : World} (h : Broke w0 base rb g v S T W) (hb : Below W.heap.size W W') : Broke w0 base rb g v S T W' :=
  ⟨h.toSes.below hb, h.low, h.ref.below hb h.ref.lt, h.own.keepB hb⟩
set_option maxRecDepth 100000 in
set_option maxHeartbeats 32000000 in
theorem atomic_any (Cs : List (List Chg)) (v : Value) (r : Int) (kv : Value) (lk : List Int) (w : World) (h : RwIs w (· < w.heap.size) v Cs) (hf : ∀ C ∈ Cs, CFit C) (hl : Cs.length ≤ 5864062014805)
    (hr : (Lit.int .i64 r).wf = true) (hk : NmIs w (· < w.heap.size) kv lk) (hfk : NmFit lk) :
    Calls Tryd.prog 11 #[v, .int .i64 r, kv] w fun e w' => e = .returned (.bool true) ∧ Below w.heap.size w w' := by
  have hrb : -9223372036854775808 ≤ r ∧ r ≤ 9223372036854775807 := by simpa [Lit.wf, IntKind.min, IntKind.max, IntKind.signed, IntKind.bits] using hr
  obtain ⟨hr1, hr2⟩ := hrb
  have hq1 : -39 ≤ Int.tmod r 40 := by have := Int.tmod_lt_of_pos (-r) (show (0 : Int) < 40 by omega); rw [Int.neg_tmod] at this; omega
  have hq2 : Int.tmod r 40 ≤ 39 := by have := Int.tmod_lt_of_pos r (show (0 : Int) < 40 by omega); omega
  obtain ⟨q, hq⟩ : ∃ q, q = Int.tmod r 40 := ⟨_, rfl⟩
  rw [← hq] at hq1 hq2
  have hqt : Int.tmod r 40 = q := hq.symm
  clear hq hr
  have hm1 : 0 ≤ (q + 40) % 40 := by omega
  have hm2 : (q + 40) % 40 < 40 := by omega
  obtain ⟨m, hm⟩ : ∃ m, m = (q + 40) % 40 := ⟨_, rfl⟩
  have hmE : (q + 40) % 40 = m := hm.symm
  rw [hmE] at hm1 hm2
  clear hm
  obtain ⟨A, c, rfl, hc⟩ := h.form
  obtain ⟨KA, kc, rfl, hkc, hN⟩ := hk
  have hfr := Lib.hid (fresh_any w)
  replace h := Lib.hid h
  replace hf := Lib.hid hf
  replace hN := Lib.hid hN
  have hal := Lib.hid alive_any
  go_enter Tryd.func11, Tryd.ntmps11
  go_wp2_with fail
  refine hfr.out.mono ?_
  rintro e w2 ⟨g, rfl, hses⟩
  replace hses := Lib.hid hses
  clear hfr
  go_wp2_with fail
  refine (open1 hses.out).mono ?_
  rintro e w3 ⟨rb, rv, rfl, hR3⟩
  replace hR3 := Lib.hid hR3
  clear hses
  go_wp2_with fail
  refine (hal.out w3).mono ?_
  rintro e w4 ⟨rfl, hb4⟩
  have hR4 := Lib.hid (hR3.out.below hb4)
  clear hR3 hb4
  go_wp2_with fail
  simp only [hmE]
  refine (hR4.out.toSes.fuse m).mono ?_
  rintro e w5 ⟨rfl, hs5, hK5⟩
  have hlv5 : Hid (LiveF { DS.new 1048576 with fuse := max m (-1) } none m) := Lib.hid ((Live.new (by decide) (by decide)).fuse40 hm1 (by omega))
  have hR5 : Hid (Ref w w.heap.size rb g rv { DS.new 1048576 with fuse := max m (-1) } [] w5) := Lib.hid ⟨hs5, hR4.out.low, hK5 _ _ _ hR4.out.ref (by decide) (by decide), hR4.out.own.keeps2 hK5⟩
  obtain ⟨S5, hS5⟩ : ∃ S5 : DS, S5 = { DS.new 1048576 with fuse := max m (-1) } := ⟨_, rfl⟩
  have hr5 : Hid (S5.room = 1048576) := Lib.hid (by rw [hS5]; rfl)
  rw [← hS5] at hlv5 hR5
  clear hs5 hK5 hR4 hqt hmE hS5
  go_wp2_with fail
  go_loopw [48, 10, 11] (fun i wv nv wr => ∃ (k : Nat) (T : Tab) (S : DS) (X : Option Str) (v : Value) (f : Int) (lo : Nat), k ≤ Cs.length ∧ i = .int .i64 k ∧ nv = wv ∧ Ref w w.heap.size rb g v S T wr ∧ LiveF S X f ∧ TextOf X T ∧ S.room = 1048576 ∧ OwnTab wr lo wv T) (fun i _ _ _ => Cs.length - (intOf i).toNat)
  case atStart => exact ⟨0, [], S5, none, rv, m, 0, Nat.zero_le _, rfl, rfl, hR5.out, hlv5.out, .inl ⟨rfl, rfl⟩, hr5.out, OwnTab.nil⟩
  case round =>
    clear hR5 hlv5 hr5
    obtain ⟨k, T, S, X, v, f, lo, hk, rfl, rfl, hR, hS, hX, hroom, hW⟩ := hrel
    obtain ⟨tm, th⟩ := hX.tok
    have hTf := Lib.hid (tfit_of tm th)
    obtain ⟨wA, wc, rfl, _⟩ := hW.form
    clear tm th
    by_cases hlt : k < Cs.length
    · obtain ⟨b, o, u, rfl, hb0, hbl, hC, c0⟩ := (h.out.low hR.bel).at k hlt
      have hcf := Lib.hid (hf.out Cs[k] (List.getElem_mem hlt))
      obtain ⟨C, hCk⟩ : ∃ C, C = Cs[k] := ⟨_, rfl⟩
      rw [← hCk] at hC hcf
      obtain ⟨UA, uc, rfl, _⟩ := hC.form
      have how := Lib.hid (lown_any C _ _ wr hC hcf.out)
      have i1 : (0 : Int) ≤ (k : Int) := by omega
      have i2 : (k : Int) < (Cs.length : Int) := by omega
      replace hR := Lib.hid hR
      replace hS := Lib.hid hS
      replace hX := Lib.hid hX
      replace hroom := Lib.hid hroom
      replace hC : Hid (ChsIs w (· < w.heap.size) (.slice UA C.length uc) C) := Lib.hid (by
        obtain ⟨b', o', u', e', _, _, hC', c0'⟩ := h.out.at k hlt
        cases e'
        have := hR.out.bel.cell (p := ⟨b, o + k, none⟩) hb0
        rw [c0, c0'] at this
        cases this
        rw [hCk]
        have e2 : C.length = Cs[k].length := by rw [hCk]
        first
          | exact hC'
          | (rw [← hCk]; rw [← hCk] at hC'; exact hC'))
      replace hW := Lib.hid hW
      clear hCk
      go_wp2_with fail
      refine how.out.mono ?_
      rintro e w6 ⟨xv, rfl, hx6, hb6⟩
      obtain ⟨VA, vc, rfl, _⟩ := hx6.form
      have hW6 := Lib.hid (hW.out.keepB hb6)
      have hdo := Lib.hid (do_fuse (hR.out.below hb6) hS.out hX.out hroom.out hx6.chs hcf.out)
      clear hx6 hb6 how hR hW c0
      go_wp2_with fail
      refine hdo.out.mono ?_
      rintro e w7 ⟨hK7, hcase⟩
      have hW7 := Lib.hid (hW6.out.keeps hK7)
      have hEs := applyE_small T C
      obtain ⟨E, hE⟩ : ∃ E, E = applyE T C := ⟨_, rfl⟩
      rw [← hE] at hcase hEs
      clear hdo hK7 hW6
      rcases hcase with ⟨rfl, hne, hR7⟩ | ⟨rfl, he0, hR7⟩ | ⟨rfl, he0, S', hB7, hA7⟩
      · have g1 : (E == 15) = false := by rw [beq_eq_false_iff_ne]; omega
        have g3 : (E == 0) = false := by rw [beq_eq_false_iff_ne]; exact hne
        replace hR7 := Lib.hid hR7
        clear hne hE hC
        go_wp2
        go_roundw
        case rel => exact ⟨k + 1, T, S, X, v, f, lo, by omega, by go_num, rfl, hR7.out, hS.out, hX.out, hroom.out, hW7.out⟩
        case measure => simp [intOf]; omega
      · obtain ⟨v', S', X', f', hR7, hS7, hX7, hr7⟩ := hR7
        obtain ⟨tm, th⟩ := hX7.tok
        have hall := Lib.hid (all_any rb _ _ v' (applyT T C) _ w7 hR7.ref hR7.own.tab (tfit_of tm th))
        replace hR7 := Lib.hid hR7
        replace hS7 := Lib.hid hS7
        replace hX7 := Lib.hid hX7
        replace hr7 := Lib.hid hr7
        clear tm th hW7 hE he0 hS hX hroom hC
        go_wp2_with fail
        refine hall.out.mono ?_
        rintro e w8 ⟨a8, rfl, ha8, hb8⟩
        obtain ⟨QA, qc, rfl, _⟩ := ha8.form
        have hR8 := Lib.hid (hR7.out.below hb8)
        replace ha8 := Lib.hid ha8
        clear hall hb8 hR7
        go_wp2
        go_roundw
        case rel => exact ⟨k + 1, applyT T C, S', X', v', f', w7.heap.size, by omega, by go_num, rfl, hR8.out, hS7.out, hX7.out, hr7.out, ha8.out⟩
        case measure => simp [intOf]; omega
      · have hap := Lib.hid (apply_any T C (.slice wA T.length wc) (.slice UA C.length uc) _ _ w7 hW7.out.tab hTf.out (hC.out.low hB7.bel) hcf.out)
        unfold ApplyTo at hap
        have hmR := Lib.hid (apply_may (he0 ▸ hE.symm : applyE T C = 0) hTf.out.tok hcf.out.cok)
        rw [← hE, he0] at hap
        obtain ⟨R, hRe⟩ : ∃ R, R = applyT T C := ⟨_, rfl⟩
        rw [← hRe] at hap hA7 hmR
        replace hB7 := Lib.hid hB7
        have hAf := Lib.hid hA7
        clear hA7 hE he0 hEs hRe hS hroom hC
        go_wp2_with fail
        refine hap.out.mono ?_
        rintro e w8 ⟨mv, rfl, hm8, hb8⟩
        obtain ⟨nA, nc, rfl, _⟩ := hm8.form
        have hB8 := Lib.hid (hB7.out.below hb8)
        have hW8 := Lib.hid (hW7.out.keepB hb8)
        replace hm8 := Lib.hid hm8
        clear hap hb8 hB7 hW7
        go_wp2_with fail
        refine (do_broken rb g _ v w8 hB8.out.ref).mono ?_
        rintro e w8' ⟨rfl, rfl⟩
        have hall := Lib.hid (all_any rb _ _ v T _ w8' hB8.out.ref hB8.out.own.tab hTf.out)
        go_wp2_with fail
        refine hall.out.mono ?_
        rintro e w9 ⟨a9, rfl, ha9, hb9⟩
        obtain ⟨QA, qc, rfl, _⟩ := ha9.form
        have hB9 := Lib.hid (hB8.out.below hb9)
        have hW9 := Lib.hid (hW8.out.keepB hb9)
        have hm9 := Lib.hid (hm8.out.keepB hb9)
        replace ha9 := Lib.hid ha9
        clear hall hb9 hB8 hW8 hm8
        go_wp2_with fail
        refine (rsame_self T _ _ _ _ w9 ha9.out.tab hW9.out.tab hTf.out).mono ?_
        rintro e w10 ⟨rfl, hb10⟩
        have hSes := Lib.hid (hB9.out.toSes.below hb10)
        have hwas := Lib.hid (hW9.out.keepB hb10)
        have hnow := Lib.hid (hm9.out.keepB hb10)
        have hXt := hX
        have hYt : Hid (TextOf (some (printS R)) R) := Lib.hid (.inr ⟨rfl, hmR.out.1, hmR.out.2⟩)
        clear hb10 hB9 hW9 hm9 ha9 hX
        have hcr := Lib.hid (crash_after (c := kc) hSes.out hAf.out (hN.out.low hSes.out.bel) hfk)
        go_wp2_with fail
        refine hcr.out.mono ?_
        rintro e wA1 ⟨rfl, hsA, hKA⟩
        have hwA := Lib.hid (hwas.out.keeps hKA)
        have hnA := Lib.hid (hnow.out.keeps hKA)
        have hop := Lib.hid (open_after hsA hAf.out hXt.out hYt.out)
        clear hcr hsA hKA hwas hnow
        go_wp2_with fail
        refine hop.out.mono ?_
        rintro e wB1 ⟨rq, vq, rfl, hbB, hKB, Q, hQ, hmQ, hoQ, hBQ, hOQ⟩
        have hwB := Lib.hid (hwA.out.keeps hKB)
        have hnB := Lib.hid (hnA.out.keeps hKB)
        have hQf := Lib.hid (tfit_of hmQ hoQ)
        have hall := Lib.hid (all_any rq _ _ vq Q _ wB1 hBQ hOQ.tab hQf.out)
        replace hbB := Lib.hid hbB
        clear hop hKB hwA hnA hmQ hoQ hBQ hOQ
        go_wp2_with fail
        refine hall.out.mono ?_
        rintro e wC1 ⟨qv, rfl, hq1, hbC⟩
        obtain ⟨qA, qc, rfl, _⟩ := hq1.form
        have hwC := Lib.hid (hwB.out.keepB hbC)
        have hnC := Lib.hid (hnB.out.keepB hbC)
        have hbb := Lib.hid (hbB.out.trans (hbC.mono hbB.out.size))
        replace hq1 := Lib.hid hq1
        clear hall hbC hwB hnB hbB
        by_cases hQT : Q = T
        · subst hQT
          have hsm := Lib.hid (rsame_self Q _ _ _ _ wC1 hq1.out.tab hwC.out.tab hQf.out)
          clear hQ hwC hnC
          go_wp2_with fail
          refine hsm.out.mono ?_
          rintro e wD1 ⟨rfl, hbD⟩
          have hbd := Lib.hid (hbb.out.trans (hbD.mono hbb.out.size))
          clear hsm hbD
          go_wp2
          go_ret
          exact ⟨rfl, hbd.out⟩
        · have hQR : Q = R := hQ.resolve_left hQT
          have hsm := Lib.hid (rsame_ne wC1 hq1.out.tab hwC.out.tab hQf.out (tfit_of hXt.out.tok.1 hXt.out.tok.2) hQT)
          subst hQR
          clear hQ hwC hQT
          go_wp2_with fail
          refine hsm.out.mono ?_
          rintro e wD1 ⟨rfl, hbD⟩
          have hbd := Lib.hid (hbb.out.trans (hbD.mono hbb.out.size))
          have hsm2 := Lib.hid (rsame_self Q _ _ _ _ wD1 (hq1.out.keepB hbD).tab (hnC.out.keepB hbD).tab hQf.out)
          clear hsm hbD
          go_wp2_with fail
          refine hsm2.out.mono ?_
          rintro e wE1 ⟨rfl, hbE⟩
          have hbe := Lib.hid (hbd.out.trans (hbE.mono hbd.out.size))
          clear hsm2 hbE
          go_wp2
          go_ret
          exact ⟨rfl, hbe.out⟩
    · obtain rfl : k = Cs.length := by omega
      have hSes := Lib.hid hR.toSes
      have hAf := Lib.hid (hS.after hroom hX.len)
      have hXt := Lib.hid hX
      have hYt := hXt
      have hwas := Lib.hid hW
      have hnow := hwas
      clear hR hS hroom hW hX
      have hcr := Lib.hid (crash_after (c := kc) hSes.out hAf.out (hN.out.low hSes.out.bel) hfk)
      go_wp2_with fail
      refine hcr.out.mono ?_
      rintro e wA1 ⟨rfl, hsA, hKA⟩
      have hwA := Lib.hid (hwas.out.keeps hKA)
      have hnA := Lib.hid (hnow.out.keeps hKA)
      have hop := Lib.hid (open_after hsA hAf.out hXt.out hYt.out)
      clear hcr hsA hKA hwas hnow
      go_wp2_with fail
      refine hop.out.mono ?_
      rintro e wB1 ⟨rq, vq, rfl, hbB, hKB, Q, hQ, hmQ, hoQ, hBQ, hOQ⟩
      have hwB := Lib.hid (hwA.out.keeps hKB)
      have hnB := Lib.hid (hnA.out.keeps hKB)
      have hQf := Lib.hid (tfit_of hmQ hoQ)
      have hall := Lib.hid (all_any rq _ _ vq Q _ wB1 hBQ hOQ.tab hQf.out)
      replace hbB := Lib.hid hbB
      clear hop hKB hwA hnA hmQ hoQ hBQ hOQ
      go_wp2_with fail
      refine hall.out.mono ?_
      rintro e wC1 ⟨qv, rfl, hq1, hbC⟩
      obtain ⟨qA, qc, rfl, _⟩ := hq1.form
      have hwC := Lib.hid (hwB.out.keepB hbC)
      have hnC := Lib.hid (hnB.out.keepB hbC)
      have hbb := Lib.hid (hbB.out.trans (hbC.mono hbB.out.size))
      replace hq1 := Lib.hid hq1
      clear hall hbC hwB hnB hbB
      by_cases hQT : Q = T
      · subst hQT
        have hsm := Lib.hid (rsame_self Q _ _ _ _ wC1 hq1.out.tab hwC.out.tab hQf.out)
        clear hQ hwC hnC
        go_wp2_with fail
        refine hsm.out.mono ?_
        rintro e wD1 ⟨rfl, hbD⟩
        have hbd := Lib.hid (hbb.out.trans (hbD.mono hbb.out.size))
        clear hsm hbD
        go_wp2
        go_ret
        exact ⟨rfl, hbd.out⟩
      · have hQR : Q = T := hQ.resolve_left hQT
        have hsm := Lib.hid (rsame_ne wC1 hq1.out.tab hwC.out.tab hQf.out (tfit_of hXt.out.tok.1 hXt.out.tok.2) hQT)
        subst hQR
        clear hQ hwC hQT
        go_wp2_with fail
        refine hsm.out.mono ?_
        rintro e wD1 ⟨rfl, hbD⟩
        have hbd := Lib.hid (hbb.out.trans (hbD.mono hbb.out.size))
        have hsm2 := Lib.hid (rsame_self Q _ _ _ _ wD1 (hq1.out.keepB hbD).tab (hnC.out.keepB hbD).tab hQf.out)
        clear hsm hbD
        go_wp2_with fail
        refine hsm2.out.mono ?_
        rintro e wE1 ⟨rfl, hbE⟩
        have hbe := Lib.hid (hbd.out.trans (hbE.mono hbd.out.size))
        clear hsm2 hbE
        go_wp2
        go_ret
        exact ⟨rfl, hbe.out⟩
end Go.Proofs.YtlenmkemjaaaoaaDoor
