/- The walk of the reference's Parse. -/
import Derived.Test.YtlenmkemjaaaoaaDoorRfWd
namespace Go.Proofs.YtlenmkemjaaaoaaDoor
open Go.RowKit

theorem ext_mid (t : Str) (i j : Nat) : (⟨t.toArray⟩ : ByteArray).extract i j = ⟨((t.drop i).take (j - i)).toArray⟩ := by
  apply ByteArray.ext
  simp
theorem run_str_mid (w : World) (t : Str) (i j : Nat) (hi : i ≤ j) (hj : j ≤ t.length) : (Instr.sliceAt 9 (.string ⟨t.toArray⟩) (some (.int .i64 (i : Int))) (some (.int .i64 (j : Int))) none).run Tryd.prog w = .ok (.string ⟨((t.drop i).take (j - i)).toArray⟩) w := by
  have hs : (⟨t.toArray⟩ : ByteArray).size = t.length := strLn t
  simp [Instr.sliceAt, Instr.slice, run_underlying Tryd.underlying9, Instr.sliceBounds, run_sliceBound, hs, hi, hj, ext_mid]
def rpE (s : Str) : Int := match rtab s with | some T => if mayE T = 0 then 0 else 7 | none => 7
def rpT (s : Str) : Tab := match rtab s with | some T => if mayE T = 0 then T else [] | none => []
def RParsedTo (w : World) (s : Str) (e : Ending) (w' : World) : Prop := ∃ v, e = .returned (.tuple #[v, .int .i64 (rpE s)]) ∧ OwnTab w' w.heap.size v (rpT s) ∧ Below w.heap.size w w'
theorem rp_none {w w' : World} {s : Str} (h : rtab s = none) (hb : Below w.heap.size w w') {e : Ending} (he : e = .returned (.tuple #[.slice none 0 0, .int .i64 7])) : RParsedTo w s e w' :=
  ⟨_, by unfold rpE; rw [h, he], by unfold rpT; rw [h]; exact OwnTab.nil, hb⟩
theorem rp_bad {w w' : World} {s : Str} {T : Tab} (h : rtab s = some T) (hm : mayE T ≠ 0) (hb : Below w.heap.size w w') {e : Ending} (he : e = .returned (.tuple #[.slice none 0 0, .int .i64 7])) : RParsedTo w s e w' :=
  ⟨_, by unfold rpE; rw [h, he]; dsimp only; rw [if_neg hm], by unfold rpT; rw [h]; dsimp only; rw [if_neg hm]; exact OwnTab.nil, hb⟩
theorem rp_good {w w' : World} {s : Str} {T : Tab} {v : Value} (h : rtab s = some T) (hm : mayE T = 0) (hb : Below w.heap.size w w') (ho : OwnTab w' w.heap.size v T) {e : Ending} (he : e = .returned (.tuple #[v, .int .i64 0])) : RParsedTo w s e w' :=
  ⟨v, by unfold rpE; rw [h, he]; dsimp only; rw [if_pos hm], by unfold rpT; rw [h]; dsimp only; rw [if_pos hm]; exact ho, hb⟩
structure RpO (w : World) (s : Str) (k : Nat) (L : Tab) (lv : Value) (wr : World) : Prop where
  own : OwnTab wr w.heap.size lv L
  eq : rtab s = (rtab (s.drop k)).map fun T => L ++ T
  len : L.length ≤ k
  fit : ∀ b ∈ L, BFit b
  bel : Below w.heap.size w wr
theorem wordI_none {s : Str} {k : Nat} (h : cutW (s.drop k) = none) : wordI s k = -1 := by unfold wordI; rw [h]
theorem wordI_some {s n : Str} {k : Nat} {c : UInt8} {r : Str} (h : cutW (s.drop k) = some (n, c, r)) : wordI s k = ((k + n.length : Nat) : Int) := by
  unfold wordI; rw [h]; simp
theorem cut_at {s n : Str} {k : Nat} {c : UInt8} {r : Str} (hk : k ≤ s.length) (h : cutW (s.drop k) = some (n, c, r)) :
    k + n.length < s.length ∧ (s.drop k).take n.length = n ∧ s.drop (k + n.length) = c :: r ∧ s.drop (k + n.length + 1) = r := by
  have h1 := (cutW_some h).1
  have hl := congrArg List.length h1
  rw [List.length_drop, List.length_append, List.length_cons] at hl
  have e1 : s.drop (k + n.length) = c :: r := by
    rw [← List.drop_drop, h1, List.drop_left]
  refine ⟨by omega, by rw [h1, List.take_left], e1, ?_⟩
  rw [← List.drop_drop, e1]
  rfl
theorem at_drop {s : Str} {e : Nat} {c : UInt8} {r : Str} (h : s.drop e = c :: r) (he : e < s.length) : s[e] = c := by
  rw [List.drop_eq_getElem_cons he] at h
  injection h
set_option maxRecDepth 100000 in
set_option maxHeartbeats 16000000 in
theorem rp_any (s : Str) (w : World) (hs : s.length ≤ 1073741824) :
    Calls Tryd.prog 18 #[strV s] w (RParsedTo w s) := by
  unfold strV
  have hsl := strLn s
  go_enter Tryd.func18, Tryd.ntmps18
  go_wp2
  go_loopw [4, 5] (fun lv i wr => ∃ (k : Nat) (L : Tab), k ≤ s.length ∧ i = .int .i64 k ∧ RpO w s k L lv wr) (fun _ i _ => s.length - (intOf i).toNat)
  case atStart => exact ⟨0, [], Nat.zero_le _, rfl, OwnTab.nil, by simp, Nat.le_refl _, (fun b hb => by cases hb), Below.refl _ _⟩
  case round =>
    obtain ⟨k, L, hk, rfl, hO⟩ := hrel
    by_cases hlt : k < s.length
    · have hwd := Lib.hid (word_any s k wr (by omega) hk)
      have hne : s.drop k ≠ [] := fun e => by
        have := congrArg List.length e
        rw [List.length_drop] at this
        simp at this; omega
      cases hq : cutW (s.drop k) with
      | none =>
        have hno : Hid (rtab s = none) := Lib.hid (by rw [hO.eq, rtab_none hne hq]; rfl)
        rw [wordI_none hq] at hwd
        have hb := hO.bel
        obtain ⟨TA, tc, rfl, _⟩ := hO.own.form
        unfold strV at hwd
        clear hq hne hO
        go_wp2_with ((go_at_call 45; refine hwd.out.mono ?_; rintro e w' ⟨rfl, rfl⟩))
        go_ret2
        exact rp_none hno.out hb rfl
      | some x =>
        obtain ⟨wo, rfl⟩ : ∃ wo : World, wo = wr := ⟨_, rfl⟩
        obtain ⟨n, c, r⟩ := x
        obtain ⟨a1, a2, a3, a4⟩ := cut_at hk hq
        have hc0 := (cutW_some hq).2.1
        have htab := rtab_some hq
        rw [wordI_some hq] at hwd
        obtain ⟨E, hE⟩ : ∃ E, E = k + n.length := ⟨_, rfl⟩
        rw [← hE] at a1 a3 a4 hwd
        have hnl : n.length ≤ 1073741824 := by omega
        have hsn := ext_mid s k E
        rw [show E - k = n.length by omega, a2] at hsn
        have hb0 := hO.bel
        have hLl := hO.len
        have hEq := Lib.hid hO.eq
        have hfit := Lib.hid hO.fit
        have htab' := Lib.hid htab
        obtain ⟨vs, hvl, hrt, hht⟩ := hO.own
        obtain ⟨TA, tc, rfl, _, _⟩ := own_form hrt
        have hown : OwnTab wo w.heap.size (.slice TA L.length tc) L := ⟨vs, hvl, hrt, hht⟩
        have hX0 : Blk (wo.alloc (.cells #[Value.string ⟨n.toArray⟩, .slice none 0 0] 61)) wo.heap.size 61 [.string ⟨n.toArray⟩, .slice none 0 0] := Blk.new_at rfl
        have hbx0 : Below wo.heap.size wo (wo.alloc (.cells #[Value.string ⟨n.toArray⟩, .slice none 0 0] 61)) := (Below.refl _ _).alloc (Nat.le_refl _) _
        replace hX0 := Lib.hid hX0
        replace hbx0 := Lib.hid hbx0
        have d1 : decide ((E : Int) < 0) = false := decide_eq_false (by omega)
        have i1 : (0 : Int) ≤ (k : Int) := by omega
        have i2 : (k : Int) ≤ (E : Int) := by omega
        have i3 : (E : Int) < (s.length : Int) := by omega
        have hk0 : k ≤ E := by omega
        unfold strV at hwd
        replace hown := Lib.hid hown
        replace hE := Lib.hid hE
        clear hq hne hO a2 htab hvl hrt hht
        go_wp2_with (first
          | (go_at_call 45; refine hwd.out.mono ?_; rintro e w' ⟨rfl, rfl⟩))
        go_loopw [6] (fun i W => ∃ (e : Nat) (c' : UInt8) (r' : Str) (hs : List Str) (hv : Value), e < s.length ∧ E ≤ e ∧ i = .int .i64 e ∧ s.drop e = c' :: r' ∧ isSep c' = true ∧ rtail c r = (rtail c' r').map (fun x => (hs ++ x.1, x.2)) ∧ hOk hs ∧ hs.length ≤ e ∧ Blk W wo.heap.size 61 [.string ⟨n.toArray⟩, hv] ∧ W.ownsRow wo.heap.size 57 32 hv hs.length (hCells hs) ∧ Below wo.heap.size wo W) (fun i _ => s.length - (intOf i).toNat)
        case atStart => exact ⟨E, c, r, [], _, a1, Nat.le_refl _, rfl, a3, hc0, by simp, (fun d hd => by cases hd), Nat.zero_le _, hX0.out, ⟨rfl, .inl ⟨rfl, rfl⟩⟩, hbx0.out⟩
        case round =>
          clear hX0 hbx0 a3 a4
          obtain ⟨e, c', r', hs', hv, he, hEe, rfl, hdr, hsep, hrt, hok, hhl, hX, hrow, hbw⟩ := hrel
          have hix := index_strB s e he
          rw [at_drop hdr he] at hix
          have h32 := bv_is c' 32
          rw [show bv 32 = 32 from rfl] at h32
          have hb1 : Below w.heap.size w wr := hb0.trans (hbw.mono hb0.size)
          have i4 : (0 : Int) ≤ (e : Int) := by omega
          have i5 : (e : Int) < (s.length : Int) := by omega
          by_cases hc32 : c' = 32
          · have g32 : (bv c' == 32) = true := by rw [h32, hc32]; rfl
            have hc10 : c' ≠ 10 := by rw [hc32]; decide
            have hd1 : s.drop (e + 1) = r' := by rw [← List.drop_drop, hdr]; rfl
            have hwd := Lib.hid (word_any s (e + 1) wr (by omega) (by omega))
            have e1 : IntKind.i64.wrap ((e : Int) + 1) = ((e + 1 : Nat) : Int) := by rw [IntWalk.i64_in _ (by omega)]; omega
            cases hq : cutW (s.drop (e + 1)) with
            | none =>
              rw [wordI_none hq] at hwd
              have hq2 := hq
              rw [hd1] at hq2
              have hno : Hid (rtab s = none) := Lib.hid (by
                rw [hEq.out, htab'.out, hrt, rtail_none hc10 hq2]; rfl)
              clear hq2
              obtain ⟨HA, hc, rfl, _, _⟩ := own_form hrow
              unfold strV at hwd
              clear hq h32 hc32 hc10 hd1 hdr hsep hrt hX hrow
              go_wp2_with ((go_at_call 45; refine hwd.out.mono ?_; rintro e w' ⟨rfl, rfl⟩))
              go_ret2
              exact rp_none hno.out hb1 rfl
            | some x =>
              obtain ⟨p, c2, r2⟩ := x
              obtain ⟨a1', a2', a3', a4'⟩ := cut_at (by omega) hq
              have hc2 := (cutW_some hq).2.1
              rw [wordI_some hq] at hwd
              have hq2 := hq
              rw [hd1] at hq2
              have hts := rtail_some hc10 hq2
              clear hq2
              obtain ⟨F, hF⟩ : ∃ F, F = e + 1 + p.length := ⟨_, rfl⟩
              rw [← hF] at a1' a3' a4' hwd
              have hsn2 := ext_mid s (e + 1) F
              rw [show F - (e + 1) = p.length by omega, a2'] at hsn2
              have d2 : decide ((F : Int) < 0) = false := decide_eq_false (by omega)
              have i6 : (0 : Int) ≤ ((e + 1 : Nat) : Int) := by omega
              have i7 : ((e + 1 : Nat) : Int) ≤ (F : Int) := by omega
              have i8 : (F : Int) < (s.length : Int) := by omega
              have heF : e + 1 ≤ F := by omega
              have hdl := pd_length p
              have hdB : ((pd p).map B).length = 32 := by rw [List.length_map]; exact hdl
              have hdi : (Tryd.prog.info? 57).map (·.size) = some ((pd p).map B).length := by rw [hdB]; kernel_rfl
              obtain ⟨D, hD⟩ : ∃ D, D = (pd p).map B := ⟨_, rfl⟩
              obtain ⟨ok, hok2⟩ : ∃ ok, ok = pok p := ⟨_, rfl⟩
              have hpar : Hid (∀ w, Calls Tryd.prog 46 #[.string ⟨p.toArray⟩] w fun e w' => e = .returned (.tuple #[.agg D.toArray, .bool ok]) ∧ Below w.heap.size w w') := Lib.hid (fun w => by rw [hD, hok2]; exact rparse_any p w)
              rw [← hD] at hdB hdi
              have hD1 : ∀ u ∈ D, u.oneCell' = true := by rw [hD]; exact all_B _
              have hDl : zero32.length = D.length := by rw [hdB]; rfl
              obtain ⟨HA, hc, rfl, hkc, hcm⟩ := own_form hrow
              unfold strV at hwd
              replace hrow := Lib.hid hrow
              replace hD := Lib.hid hD
              replace hok2 := Lib.hid hok2
              replace hok := Lib.hid hok
              replace hrt := Lib.hid hrt
              replace hts := Lib.hid hts
              replace hdr := Lib.hid hdr
              replace hd1 := Lib.hid hd1
              replace hF := Lib.hid hF
              replace a3' := Lib.hid a3'
              clear hq h32 hc32 hc10 a2' a4' hdl
              have hltX := hX.lt
              cases ok
              · have hno : Hid (rtab s = none) := Lib.hid (by
                  rw [hEq.out, htab'.out, hrt.out, hts.out, ← hok2.out]; rfl)
                go_wp2_with (first
                  | (go_at_call 45; refine hwd.out.mono ?_; rintro e w' ⟨rfl, rfl⟩)
                  | (go_at_call 46; (with_reducible refine (hpar.out _).mono ?_); rintro e W5 ⟨rfl, hb5⟩)
                  | (refine wpList_store_blk rfl 57 (.tmp 8) (.tmp 41) rfl W5.heap.size D rfl rfl 57 zero32 (Blk.new_at rfl) hDl hdi hD1 ?_; obtain ⟨hbox, hbb⟩ := boxed W5 57 zero32 D; change wpList _ _ _ _ _ ((W5.alloc (.cells zero32.toArray 57)).setRow W5.heap.size D.toArray); generalize (W5.alloc (.cells zero32.toArray 57)).setRow W5.heap.size D.toArray = W6 at hbox hbb ⊢; have hb6 := hb1.trans ((hb5.mono hb1.size).trans (hbb.mono (Nat.le_trans hb1.size hb5.size))); clear hbb; go_frame))
                go_ret2
                exact rp_none hno.out hb6 rfl
              · have hrk : hs'.length + 1 ≤ maxLen := by unfold maxLen; omega
                go_wp2_with (first
                  | (go_at_call 45; refine hwd.out.mono ?_; rintro e w' ⟨rfl, rfl⟩)
                  | (go_at_call 46; (with_reducible refine (hpar.out _).mono ?_); rintro e W5 ⟨rfl, hb5⟩)
                  | (refine wpList_store_blk rfl 57 (.tmp 8) (.tmp 41) rfl W5.heap.size D rfl rfl 57 zero32 (Blk.new_at rfl) hDl hdi hD1 ?_; obtain ⟨hbox, hbb⟩ := boxed W5 57 zero32 D; change wpList _ _ _ _ _ ((W5.alloc (.cells zero32.toArray 57)).setRow W5.heap.size D.toArray); generalize (W5.alloc (.cells zero32.toArray 57)).setRow W5.heap.size D.toArray = W6 at hbox hbb ⊢; have hbr6 := hb5.trans (hbb.mono hb5.size); have hX6 := hX.below hbr6 hX.lt; have hd6 := hX6.cell 1; have hrow6 := Lib.hid (own_touch (L := []) hrow.out (Touch.ofBelow hbr6) (by simp)); have hbw6 := hbw.trans (hbr6.mono hbw.size); clear hbb; go_frame)
                  | (refine wpList_load_blk rfl 57 (.tmp 8) rfl W5.heap.size rfl 57 D hbox _ Tryd.underlying57 rfl hdi ?_; go_frame)
                  | (refine wpList_build_dig (.tmp 47) rfl rfl D hdB rfl ?_; go_frame)
                  | (at_builtin; refine wpList_append_rd _ rfl (.tmp 46) (.tmp 48) 44 rfl wo.heap.size 57 (.agg zero32.toArray) 32 32 Tryd.underlying44 digInfo (.slice HA hs'.length hc) hs'.length (hCells hs') rfl (hrow6.out.alloc _) (fun _ => True) (some ⟨W6.heap.size, 0, none⟩) 1 1 D rfl hdB (Rd.of_blk (cs := D) (r := []) (Blk.new_at rfl) (by simp) trivial) hD1 hrk (by omega) (by have := hbw6.size; simp; omega) ?_; intro v' W7 hrow7 hg7 hv7; have hX7 := (hX6.alloc (.cells D.toArray 57)).keepRow (hrow6.out.alloc _) (by decide) hg7; have hb7 := (hbw6.alloc hbw6.size (.cells D.toArray 57)).trans (own_below (hrow6.out.alloc _) hg7 (by have := hbw6.size; simp; omega)); replace hrow7 := Lib.hid hrow7; clear hg7 hv7; obtain ⟨VA, vc, rfl, _, _⟩ := own_form hrow7.out; have hd7 := hX7.cell 1; have hf7 := hX7.frozen 1; clear hX6 hd6 hrow6; go_frame))
                have hBf := hX7.set_ 1 (.slice VA (hs'.length + 1) vc)
                go_roundw
                case rel =>
                  refine ⟨F, c2, r2, hs' ++ [pd p], _, a1', by omega, by go_num, a3'.out, hc2, ?_, ?_, by simp; omega, hBf, ?_, ?_⟩
                  · rw [hrt.out, hts.out, ← hok2.out, if_pos rfl]
                    cases rtail c2 r2 with
                    | none => rfl
                    | some y => simp
                  · intro d hd
                    rcases List.mem_append.1 hd with hd | hd
                    · exact hok.out d hd
                    · simp only [List.mem_singleton] at hd
                      rw [hd]; exact pd_length p
                  · rw [hCells_snoc, ← hD.out, List.length_append]
                    exact own_keepCell hrow7.out hX7 (by decide)
                  · exact hb7.grown (setCell_grown W7 wo.heap.size 1 _) hb7.size (fun j e => by cases e; exact Nat.le_refl _)
                case measure => simp [intOf]; omega
          · have g32 : (bv c' == 32) = false := by rw [h32]; simpa using hc32
            have hc10 : c' = 10 := (isSep_cases hsep).resolve_left hc32
            subst hc10
            have hd1 : s.drop (e + 1) = r' := by rw [← List.drop_drop, hdr]; rfl
            rw [rtail_end] at hrt
            have hnew : Hid (rtab s = (rtab (s.drop (e + 1))).map fun T => (L ++ [(⟨n, hs'⟩ : Br)]) ++ T) := Lib.hid (by
              rw [hEq.out, htab'.out, hrt, hd1]
              simp only [Option.map_some, List.append_nil]
              cases rtab r' with
              | none => rfl
              | some T => simp)
            have e1 : IntKind.i64.wrap ((e : Int) + 1) = ((e + 1 : Nat) : Int) := by rw [IntWalk.i64_in _ (by omega)]; omega
            have hOw := hown.out.keepB hbw
            obtain ⟨vs, hvl, hrt2, hht⟩ := hOw
            obtain ⟨HA, hc, rfl, hkc, hcm⟩ := own_form hrow
            have hhd := Lib.hid ((hd_of_own hrow).lower hb0.size)
            have hfitn : Hid (BFit ⟨n, hs'⟩) := Lib.hid ⟨by show n.length ≤ _; omega, ⟨by show hs'.length ≤ _; omega, hok⟩⟩
            have hszw := hb1.size
            replace hrt2 := Lib.hid hrt2
            replace hht := Lib.hid hht
            replace hvl := Lib.hid hvl
            replace hb1 := Lib.hid hb1
            have hcl : Hid (Blk wr wo.heap.size 61 [.string ⟨n.toArray⟩, .slice HA hs'.length hc]) := Lib.hid hX
            clear hrt hdr hsep hd1 h32 hc32 hrow hX hok
            go_wp2_with (first
              | (refine wpList_load_blk rfl 61 (.tmp 7) rfl wo.heap.size rfl 61 [.string ⟨n.toArray⟩, .slice HA hs'.length hc] hcl.out _ Tryd.underlying61 rfl brSz ?_; go_frame)
              | (at_builtin; refine wpList_append_rd _ rfl (.tmp 53) (.tmp 55) 22 rfl w.heap.size 61 (.agg zeroBr.toArray) 2 40 Tryd.underlying22 brInfo (.slice TA L.length tc) L.length (tCells L vs) rfl (hrt2.out.alloc _) (fun _ => True) (some ⟨wr.heap.size, 0, none⟩) 1 1 [.string ⟨n.toArray⟩, .slice HA hs'.length hc] rfl rfl (Rd.of_blk (cs := [.string ⟨n.toArray⟩, .slice HA hs'.length hc]) (r := []) (Blk.new_at rfl) rfl trivial) (by simp [Value.oneCell']) (by unfold maxLen; omega) (by omega) (by simp; omega) ?_; intro v' W7 hrow7 hg7 hv7; replace hrow7 := Lib.hid hrow7; replace hg7 := Lib.hid hg7; clear hv7; obtain ⟨VA, vc, rfl, _, _⟩ := own_form hrow7.out; go_frame))
            go_roundw
            case rel =>
              have hba : Below wr.heap.size wr (wr.alloc (Obj.cells #[Value.string ⟨n.toArray⟩, Value.slice HA hs'.length hc] 61)) := (Below.refl _ _).alloc (Nat.le_refl _) _
              have hro := hrt2.out.alloc (Obj.cells #[Value.string ⟨n.toArray⟩, Value.slice HA hs'.length hc] 61)
              refine ⟨e + 1, L ++ [⟨n, hs'⟩], by omega, by go_num, ⟨?_, hnew.out, by simp; omega, fun b hb => ?_, ?_⟩⟩
              · refine OwnTab.snoc (b := ⟨n, hs'⟩) (vs := vs) hvl.out (fun k b u h1 h2 => ((hht.out k b u h1 h2).keepB hba).keepRow hro (by decide) hg7.out) ((hhd.out.keepB hba).keepRow hro (by decide) hg7.out) hrow7.out
              · rcases List.mem_append.1 hb with hb | hb
                · exact hfit.out b hb
                · simp only [List.mem_singleton] at hb
                  rw [hb]; exact hfitn.out
              · exact hb1.out.trans ((hba.mono hszw).trans (own_below hro hg7.out (by simp; omega)))
            case measure => simp [intOf]; omega
    · obtain rfl : k = s.length := by omega
      have heq := hO.eq
      rw [List.drop_length, rtab_nil] at heq
      replace heq : Hid (rtab s = some L) := Lib.hid (by rw [heq]; simp)
      have hLl := hO.len
      have hTF : TFit L := ⟨by omega, hO.fit⟩
      have hmay := Lib.hid (rmay_any L _ _ wr hO.own.tab hTF)
      have hb := hO.bel
      have hown := hO.own
      obtain ⟨TA, tc, rfl, _⟩ := hown.form
      obtain ⟨x, hx⟩ : ∃ x, x = mayE L := ⟨_, rfl⟩
      rw [← hx] at hmay
      replace hown := Lib.hid hown
      clear hO hTF
      by_cases hx0 : x = 0
      · subst hx0
        replace hx := Lib.hid hx
        go_wp2_with fail
        refine hmay.out.mono ?_
        rintro e w1 ⟨rfl, hb1⟩
        have hb2 := hb.trans (hb1.mono hb.size)
        have hown1 := Lib.hid (hown.out.keepB hb1)
        go_wp2
        go_ret2
        exact rp_good heq.out hx.out.symm hb2 hown1.out rfl
      · have g1 : (x != 0) = true := by simpa using hx0
        have hxm : Hid (mayE L ≠ 0) := Lib.hid (by rw [← hx]; exact hx0)
        clear hx hx0
        go_wp2_with fail
        refine hmay.out.mono ?_
        rintro e w1 ⟨rfl, hb1⟩
        have hb2 := hb.trans (hb1.mono hb.size)
        go_wp2
        go_ret2
        exact rp_bad heq.out hxm.out hb2 rfl
end Go.Proofs.YtlenmkemjaaaoaaDoor
