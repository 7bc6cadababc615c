/- The walk of DiskPieces. -/
import Derived.Test.YtbfniokghocfiaaDkSy
namespace Go.Proofs.Ytbfniokghocfiaa
open Go.RowKit Go.Maps Go.Sort

/-- The beginning of some text. -/
def Some_ (acts : List ActD) (t : List UInt8) : Prop := ∃ x ∈ acts, t <+: x.t
def AllPre (acts : List ActD) (D : DM) : Prop := ∀ k, fHas D k = true → Some_ acts (fS D k)
def DOp.from_ (acts : List ActD) : DOp → Prop
  | .write _ t => Some_ acts t
  | _ => True
theorem Some_.pre {acts : List ActD} {t u : List UInt8} (h : Some_ acts t) (hu : u <+: t) : Some_ acts u := by
  obtain ⟨x, hx, hp⟩ := h
  exact ⟨x, hx, hu.trans hp⟩
theorem cutT_pre (t : List UInt8) (k : Int) : cutT t k <+: t := by
  unfold cutT
  split
  · exact List.take_prefix _ _
  · exact List.prefix_refl _
theorem AllPre.act {acts : List ActD} {D : DM} (h : AllPre acts D) (hs : StrMap D) {o : DOp} (ho : o.from_ acts) (k : Int) : AllPre acts (o.act k D) := by
  cases o with
  | write s t =>
    intro q hq
    by_cases e : q = s
    · subst e
      show Some_ acts (fS (fPut D q (cutT t k)) q)
      rw [fS_put_same hs]
      exact Some_.pre ho (cutT_pre t k)
    · have h1 : fHas (fPut D s (cutT t k)) q = true := hq
      rw [fHas_put_other e] at h1
      show Some_ acts (fS (fPut D s (cutT t k)) q)
      rw [fS_put_other e]
      exact h q h1
  | remove s =>
    intro q hq
    have h1 : fHas (fDel D s) q = true := hq
    show Some_ acts (fS (fDel D s) q)
    by_cases e : q = s
    · rw [e, fHas_del_same] at h1; cases h1
    · rw [fHas_del_other e] at h1
      rw [fS_del_other e]
      exact h q h1
  | rename s t =>
    simp only [DOp.act]
    split
    · rename_i hh
      intro q hq
      by_cases e : q = t
      · subst e
        rw [fS_put_same (hs.del s)]
        exact h s hh
      · rw [fHas_put_other e] at hq
        rw [fS_put_other e]
        by_cases e2 : q = s
        · rw [e2, fHas_del_same] at hq; cases hq
        · rw [fHas_del_other e2] at hq
          rw [fS_del_other e2]
          exact h q hq
    · exact h
theorem AllPre.crash {acts : List ActD} : ∀ (os : List DOp) (l : List Int) {D : DM}, AllPre acts D → StrMap D → (∀ o ∈ os, o.from_ acts) → AllPre acts (crashTo os l D)
  | [], _, _, h, _, _ => h
  | o :: os, l, D, h, hs, ho => by
    simp only [crashTo]
    split
    · exact AllPre.crash os _ (h.act hs (ho o (by simp)) _) (o.act_str hs _) (fun p hp => ho p (by simp [hp]))
    · exact AllPre.crash os _ h hs (fun p hp => ho p (by simp [hp]))
structure PreInv (acts : List ActD) (S : DS) : Prop where
  now : AllPre acts S.now
  sure : AllPre acts S.sure
  ops : ∀ o ∈ S.pend, o.from_ acts
def Call.from_ (acts : List ActD) : Call → Prop
  | .write _ t => Some_ acts t
  | _ => True
theorem PreInv.turn {acts : List ActD} {S : DS} {n : Nat} (h : PreInv acts S) (hI : Inv S n) (c : Call) (hc : c.from_ acts) : PreInv acts (c.turn S) := by
  have ht : PreInv acts S.tick := ⟨by rw [tick_now]; exact h.now, by rw [tick_sure]; exact h.sure, by rw [tick_pend]; exact h.ops⟩
  have hd : ∀ o : DOp, o.from_ acts → PreInv acts (S.tick.does o) := fun o ho => by
    refine ⟨ht.now.act hI.tick.now ho 1, ht.sure, fun p hp => ?_⟩
    rcases List.mem_append.1 hp with hp | hp
    · exact ht.ops p hp
    · rw [List.mem_singleton.1 hp]; exact ho
  unfold Call.turn
  split
  · exact ht
  · split
    · cases c with
      | write s t => exact hd _ hc
      | remove s => exact hd _ trivial
      | rename s t => exact hd _ trivial
      | sync => exact ⟨ht.now, ht.now, by simp [Call.done]⟩
    · exact ht
theorem act_from {acts : List ActD} {x : ActD} (hx : x ∈ acts) : x.call.from_ acts := by
  unfold ActD.call
  split
  · trivial
  · split
    · trivial
    · split
      · trivial
      · exact ⟨x, hx, List.prefix_refl _⟩
theorem preInv_runs {acts : List ActD} : ∀ (l : List ActD) {S : DS} {n : Nat}, (∀ x ∈ l, x ∈ acts) → PreInv acts S → Inv S n → PreInv acts (runs S l)
  | [], _, _, _, h, _ => h
  | x :: l, S, n, hl, h, hI => preInv_runs l (fun y hy => hl y (by simp [hy])) (h.turn hI x.call (act_from (hl x (by simp)))) (hI.turn x.call)
theorem preInv_new (acts : List ActD) (room : Int) : PreInv acts (DS.new room) := by
  refine ⟨fun k hk => ?_, fun k hk => ?_, by simp [DS.new]⟩
  · have : fHas fNil k = true := hk
    simp [fHas, fNil, Maps.has] at this
  · have : fHas fNil k = true := hk
    simp [fHas, fNil, Maps.has] at this
/-- Has one of the acts this beginning? -/
def anyPre (t : List UInt8) (acts : List ActD) : Bool := acts.any fun x => decide (t <+: x.t)
theorem anyPre_snoc (t : List UInt8) (acts : List ActD) (x : ActD) : anyPre t (acts ++ [x]) = (anyPre t acts || decide (t <+: x.t)) := by simp [anyPre]
theorem anyPre_of {t : List UInt8} {acts : List ActD} (h : Some_ acts t) : anyPre t acts = true := by
  obtain ⟨x, hx, hp⟩ := h
  unfold anyPre
  rw [List.any_eq_true]
  exact ⟨x, hx, by simpa using hp⟩
theorem files_pre {acts : List ActD} {D : DM} (h : AllPre acts D) (hs : StrMap D) {i : Nat} (hi : i < (fFiles D).length) : anyPre (fFiles D)[i].2 acts = true := by
  have h1 := files_fst D i hi
  have h2 := h _ (names_has hs h1)
  have h3 : (fFiles D)[i].2 = fS D (fFiles D)[i].1 := by simp [fFiles]
  rw [h3]
  exact anyPre_of h2
theorem keysOk_crash : ∀ (os : List DOp) (l : List Int) {D : DM}, KeysOk D → (∀ o ∈ os, o.named) → KeysOk (crashTo os l D)
  | [], _, _, h, _ => h
  | o :: os, l, D, h, ho => by
    simp only [crashTo]
    split
    · exact keysOk_crash os _ (h.act (ho o (by simp)) _) (fun p hp => ho p (by simp [hp]))
    · exact keysOk_crash os _ h (fun p hp => ho p (by simp [hp]))
theorem pre_iff (t u : List UInt8) : (t <+: u) ↔ (t.length ≤ u.length ∧ u.take t.length = t) := by
  constructor
  · intro h
    exact ⟨h.length_le, (List.prefix_iff_eq_take.1 h).symm⟩
  · rintro ⟨_, h⟩
    rw [← h]
    exact List.take_prefix _ _
theorem ext_beq {b T : List UInt8} (h : b.length ≤ T.length) : (((⟨T.toArray⟩ : ByteArray).extract 0 b.length).toList == b) = decide (b <+: T) := by
  rw [ext_take, Bool.eq_iff_iff, beq_iff_eq, decide_eq_true_iff, pre_iff]
  have e : (⟨(T.take b.length).toArray⟩ : ByteArray).toList = T.take b.length := by simp [ByteArray.toList_eq]
  rw [e]
  exact ⟨fun h1 => ⟨h, h1⟩, fun h1 => h1.2⟩
set_option maxRecDepth 100000 in
set_option maxHeartbeats 2000000 in
theorem pieces_any (acts : List ActD) (A : Option Addr) (c : Nat) (l : List Int) (B : Option Addr) (d : Nat) (w : World) (hA : AIn w A acts) (hB : ChIn w B l) :
    Calls Try.prog 4 #[.slice A acts.length c, .slice B l.length d] w fun e w' => e = .returned (.bool true) ∧ Below w.heap.size w w' := by
  have hp := Lib.hid (played_any acts A c w hA.rd hA.ok hA.len)
  have hI := inv_played acts
  have hP : PreInv acts (runs (DS.new 65536) acts) := preInv_runs acts (fun _ hx => hx) (preInv_new acts 65536) (Inv.new (by omega) (by omega))
  obtain ⟨S, hS⟩ : ∃ S, S = runs (DS.new 65536) acts := ⟨_, rfl⟩
  rw [← hS] at hp hI hP
  clear hS
  have hal := hA.len
  have hstr := crashTo_str S.pend l S.sure hI.sure
  have hcl := crashTo_len S.pend l S.sure hI.sure
  have hck := keysOk_crash S.pend l hI.keys' hI.opn
  have hcp := AllPre.crash S.pend l hP.sure hI.sure hP.ops
  have hnow : (S.crash l).now = crashTo S.pend l S.sure := rfl
  have hf1 := hI.few'
  have hf2 := hI.len
  have hsm : fLen (crashTo S.pend l S.sure) ≤ 4398046511104 := by omega
  have hq : fLen S.sure + S.pend.length < 8796093022208 := by omega
  have hoff : (S.crash l).off = false := rfl
  rw [← hnow] at hstr hck hcp hsm
  obtain ⟨S', hS'⟩ : ∃ S', S' = S.crash l := ⟨_, rfl⟩
  have hcr := Lib.hid (fun wr g (h : PlayRel w g S wr) => pr_crash l B d h hI.toFit hq (hB.nums h.base) hB.le hB.len)
  rw [← hS'] at hstr hck hcp hsm hoff hcr
  clear hS' hnow hcl hf1 hf2 hq hI hP
  have hfp := Lib.hid (fun i hi => files_pre hcp hstr (i := i) hi)
  have hfs : Hid ((fFiles S'.now).length ≤ 4398046511104) := Lib.hid (by rw [files_len]; exact hsm)
  replace hsm := Lib.hid hsm
  replace hck := Lib.hid hck
  replace hA := Lib.hid hA
  replace hoff := Lib.hid hoff
  clear hstr hcp hB
  go_enter Try.func4, Try.ntmps4
  go_wp2_with fail
  refine hp.out.mono ?_
  rintro e w1 ⟨g, rfl, h1⟩
  replace h1 := Lib.hid h1
  go_wp2_with fail
  refine (alive_any w1).mono ?_
  rintro e w2 ⟨rfl, hb2⟩
  have h2 := Lib.hid (h1.out.below hb2)
  clear hb2
  go_wp2_with fail
  refine (hcr.out _ _ h2.out).mono ?_
  rintro e w3 ⟨rfl, h3, _⟩
  replace h3 := Lib.hid h3
  go_wp2_with fail
  refine (pr_files h3.out hoff.out hsm.out hck.out).mono ?_
  rintro e w4 ⟨v4, rfl, hf4, hb4⟩
  obtain ⟨A4, c4, rfl⟩ := files_form hf4
  have h4 : Hid (Below w.heap.size w w4) := Lib.hid (h3.out.base.trans (hb4.mono h3.out.base.size))
  obtain ⟨fl, hfl⟩ : ∃ fl, fl = fFiles S'.now := ⟨_, rfl⟩
  rw [← hfl] at hf4 hfp hfs ⊢
  have hfs' := hfs.out
  replace hf4 := Lib.hid hf4
  clear hb4 hfl
  go_wp2_with fail
  go_loopw [25] (fun i wr => ∃ k : Nat, k ≤ fl.length ∧ i = .int .i64 k ∧ Below w4.heap.size w4 wr) (fun i _ => fl.length - (intOf i).toNat)
  case atStart => exact ⟨0, Nat.zero_le _, rfl, Below.refl _ _⟩
  case round =>
    obtain ⟨k, hk, rfl, hbk⟩ := hrel
    by_cases hlt : k < fl.length
    · obtain ⟨g4, cs4, r4, e4, hB4, hc4⟩ := hf4.out.blk (by omega)
      subst e4
      obtain ⟨q, hq⟩ := fCells_drop fl k hlt
      have hd4 : cs4.drop (k * 2) = [strV fl[k].1, strV fl[k].2] ++ (q ++ r4) := by
        rw [hc4, List.drop_append_of_le_length (by rw [fCells_len]; omega), hq, List.append_assoc]
      have hB4' := hB4.below hbk hB4.lt
      have hfin := hfp.out k hlt
      obtain ⟨a, ha⟩ : ∃ a, a = fl[k].1 := ⟨_, rfl⟩
      obtain ⟨b, hbb⟩ : ∃ b, b = fl[k].2 := ⟨_, rfl⟩
      rw [← ha, ← hbb] at hd4
      rw [← hbb] at hfin
      clear hq hc4 ha hbb hB4
      have hb2 : Below wr.heap.size wr ((wr.alloc (.cells #[Value.string ⟨#[]⟩, .string ⟨#[]⟩] 35)).setRow wr.heap.size #[strV a, strV b]) := below_setRow ((Below.refl _ _).alloc (Nat.le_refl _) _) (Nat.le_refl _) _
      have hF2 : Blk ((wr.alloc (.cells #[Value.string ⟨#[]⟩, .string ⟨#[]⟩] 35)).setRow wr.heap.size #[strV a, strV b]) wr.heap.size 35 [strV a, strV b] := (Blk.new_at (cs := [.string ⟨#[]⟩, .string ⟨#[]⟩]) rfl).setRow_same _
      obtain ⟨W2, hW2⟩ : ∃ W2, W2 = (wr.alloc (.cells #[Value.string ⟨#[]⟩, .string ⟨#[]⟩] 35)).setRow wr.heap.size #[strV a, strV b] := ⟨_, rfl⟩
      rw [← hW2] at hb2 hF2
      have hbW2 : Hid (Below w4.heap.size w4 W2) := Lib.hid (hbk.trans (hb2.mono hbk.size))
      have hbw2 : Hid (Below w.heap.size w W2) := Lib.hid (h4.out.trans (hbW2.out.mono h4.out.size))
      have hone2 : Hid (∀ u ∈ [strV a, strV b], u.oneCell' = true) := Lib.hid (by simp [strV, Value.oneCell'])
      replace hW2 := Lib.hid hW2
      replace hd4 := Lib.hid hd4
      replace hB4' := Lib.hid hB4'
      replace hF2 := Lib.hid hF2
      replace hfin := Lib.hid hfin
      have hgf : wr.heap.size < W2.heap.size := hF2.out.lt
      obtain ⟨gf, hgf'⟩ : ∃ gf, gf = wr.heap.size := ⟨_, rfl⟩
      clear hbk hb2
      have i1 : (0 : Int) ≤ (k : Int) := by omega
      have i2 : (k : Int) < (fl.length : Int) := by omega
      go_wp2_with (first
        | (refine wpList_load_part rfl 35 (.tmp 27) rfl g4 (k * 2) rfl 35 cs4 [strV a, strV b] (q ++ r4) hB4'.out hd4.out _ Try.underlying35 rfl fileSz ?_; go_frame)
        | (refine wpList_store_blk rfl 35 (.tmp 7) (.tmp 28) rfl wr.heap.size [strV a, strV b] rfl rfl 35 [.string ⟨#[]⟩, .string ⟨#[]⟩] (Blk.new_at rfl) rfl fileSz hone2.out ?_; rw [show (wr.alloc (.cells #[Value.string ⟨#[]⟩, .string ⟨#[]⟩] 35)).setRow wr.heap.size [strV a, strV b].toArray = W2 from hW2.out.symm]; go_frame))
      rw [← hgf'] at hF2 hgf ⊢
      replace hgf' := Lib.hid hgf'
      go_loopw [31, 8] (fun i f w5 => ∃ j : Nat, j ≤ acts.length ∧ i = .int .i64 j ∧ f = .bool (anyPre b (acts.take j)) ∧ Below W2.heap.size W2 w5) (fun i _ _ => acts.length - (intOf i).toNat)
      case atStart => exact ⟨0, Nat.zero_le _, rfl, rfl, Below.refl _ _⟩
      case round =>
        obtain ⟨j, hj, rfl, rfl, hb5⟩ := hrel
        by_cases hlt2 : j < acts.length
        · obtain ⟨ba, oa, rfl, hca⟩ := hA.out.rd (by omega)
          have hcr3 : ∀ i v, acts[j].cells[i]? = some v → wr.cell? ⟨ba, oa + j * 7 + i, none⟩ = some v := fun i v hv => by
            have h1 := hca j acts[j] (List.getElem?_eq_getElem hlt2) i v hv
            have hlt : ba < w.heap.size := World.block_lt_of_cell? _ _ h1
            have hbb : Below w.heap.size w wr := hbw2.out.trans (hb5.mono hbw2.out.size)
            rw [hbb.cell (p := ⟨ba, oa + j * 7 + i, none⟩) hlt]
            exact h1
          have hxo := hA.out.ok acts[j] (List.getElem_mem hlt2)
          have htk : acts.take (j + 1) = acts.take j ++ [acts[j]] := List.take_succ_eq_append_getElem hlt2
          have hsn := anyPre_snoc b (acts.take j) acts[j]
          rw [← htk] at hsn
          obtain ⟨x, hx⟩ : ∃ x, x = acts[j] := ⟨_, rfl⟩
          rw [← hx] at hcr3 hxo hsn
          clear hx hca htk
          have hb6 : Below wr.heap.size wr ((wr.alloc (.cells #[Value.int .i64 0, .bool false, .string ⟨#[]⟩, .string ⟨#[]⟩, .string ⟨#[]⟩, .int .i64 0, .slice none 0 0] 37)).setRow wr.heap.size x.cells.toArray) := below_setRow ((Below.refl _ _).alloc (Nat.le_refl _) _) (Nat.le_refl _) _
          have hbox : Blk ((wr.alloc (.cells #[Value.int .i64 0, .bool false, .string ⟨#[]⟩, .string ⟨#[]⟩, .string ⟨#[]⟩, .int .i64 0, .slice none 0 0] 37)).setRow wr.heap.size x.cells.toArray) wr.heap.size 37 x.cells := (Blk.new_at (cs := zeroAct) rfl).setRow_same _
          obtain ⟨W3, hW3⟩ : ∃ W3, W3 = (wr.alloc (.cells #[Value.int .i64 0, .bool false, .string ⟨#[]⟩, .string ⟨#[]⟩, .string ⟨#[]⟩, .int .i64 0, .slice none 0 0] 37)).setRow wr.heap.size x.cells.toArray := ⟨_, rfl⟩
          rw [← hW3] at hb6 hbox
          have hbW3 : Hid (Below W2.heap.size W2 W3) := Lib.hid (hb5.trans (hb6.mono hb5.size))
          have m1 : W3.cell? ⟨gf, 1, none⟩ = some (strV b) := by rw [hbW3.out.cell (p := ⟨gf, 1, none⟩) hgf, hF2.out.cell]; rfl
          have m4 : W3.cell? ⟨wr.heap.size, 4, none⟩ = some (strV x.t) := by rw [hbox.cell]; rfl
          have p1 := fun s' => over_cell m1 s'
          have p4 := fun s' => over_cell m4 s'
          have hsz : Hid ((Try.prog.info? 37).map (·.size) = some x.cells.length) := Lib.hid actSz
          have hone := Lib.hid (act_one x)
          have hzl : Hid (zeroAct.length = x.cells.length) := Lib.hid rfl
          have hxt : x.t.length ≤ 140737488355328 := hxo.t
          obtain ⟨T, hT⟩ : ∃ T, T = x.t := ⟨_, rfl⟩
          rw [← hT] at p4 hsn hxt
          obtain ⟨cs, hcs⟩ : ∃ cs, cs = x.cells := ⟨_, rfl⟩
          rw [← hcs] at hcr3 hsz hone hzl hW3
          replace hsn := Lib.hid hsn
          replace hcs := Lib.hid hcs
          replace hT := Lib.hid hT
          replace hW3 := Lib.hid hW3
          replace hcr3 := Lib.hid hcr3
          clear hb5 hb6 hbox m1 m4 hxo
          unfold strV at p1 p4
          have i3 : (0 : Int) ≤ (j : Int) := by omega
          have i4 : (j : Int) < (acts.length : Int) := by omega
          haveI := over_nonempty W3
          generalize hfd : anyPre b (acts.take j) = fd at hsn ⊢
          clear hfd
          cases fd with
          | true =>
            go_wp2_with (first
              | (refine wpList_load_mid rfl 37 (.tmp 33) rfl ba (oa + j * 7) rfl cs _ hcr3.out Try.underlying37 rfl hsz.out ?_; go_frame)
              | (refine wpList_store_blk rfl 37 (.tmp 10) (.tmp 34) rfl wr.heap.size cs rfl rfl 37 zeroAct (Blk.new_at rfl) hzl.out hsz.out hone.out ?_; rw [show (wr.alloc (.cells #[Value.int .i64 0, .bool false, .string ⟨#[]⟩, .string ⟨#[]⟩, .string ⟨#[]⟩, .int .i64 0, .slice none 0 0] 37)).setRow wr.heap.size cs.toArray = W3 from hW3.out.symm]; go_frame))
            refine quiet_over (by kernel_rfl) (by kernel_rfl) ?_
            repeat (first | go_big_quiet_step (fail))
            refine wpQuiet_nil ?_
            rintro _ ⟨s7, rfl⟩
            go_wp2
            go_roundw
            case rel => exact ⟨j + 1, by omega, by go_num, by rw [hsn.out]; rfl, hbW3.out.trans (s7.2.mono hbW3.out.size)⟩
            case measure => simp [intOf]; omega
          | false =>
            by_cases hle : b.length ≤ T.length
            · have hle' := hle
              have dl : decide ((b.length : Int) ≤ (T.length : Int)) = true := by simp; omega
              have dl' : decide (b.length ≤ T.length) = true := by simp; omega
              go_wp2_with (first
                | (refine wpList_load_mid rfl 37 (.tmp 33) rfl ba (oa + j * 7) rfl cs _ hcr3.out Try.underlying37 rfl hsz.out ?_; go_frame)
                | (refine wpList_store_blk rfl 37 (.tmp 10) (.tmp 34) rfl wr.heap.size cs rfl rfl 37 zeroAct (Blk.new_at rfl) hzl.out hsz.out hone.out ?_; rw [show (wr.alloc (.cells #[Value.int .i64 0, .bool false, .string ⟨#[]⟩, .string ⟨#[]⟩, .string ⟨#[]⟩, .int .i64 0, .slice none 0 0] 37)).setRow wr.heap.size cs.toArray = W3 from hW3.out.symm]; go_frame))
              refine quiet_over (by kernel_rfl) (by kernel_rfl) ?_
              repeat (first | go_big_quiet_step (fail))
              refine wpQuiet_nil ?_
              rintro _ ⟨s7, rfl⟩
              go_wp2
              go_roundw
              case rel => exact ⟨j + 1, by omega, by go_num, by rw [hsn.out, ext_beq hle']; rfl, hbW3.out.trans (s7.2.mono hbW3.out.size)⟩
              case measure => simp [intOf]; omega
            · have hle' := hle
              have dl : decide ((b.length : Int) ≤ (T.length : Int)) = false := by simp; omega
              have dl' : decide (b.length ≤ T.length) = false := by simp; omega
              go_wp2_with (first
                | (refine wpList_load_mid rfl 37 (.tmp 33) rfl ba (oa + j * 7) rfl cs _ hcr3.out Try.underlying37 rfl hsz.out ?_; go_frame)
                | (refine wpList_store_blk rfl 37 (.tmp 10) (.tmp 34) rfl wr.heap.size cs rfl rfl 37 zeroAct (Blk.new_at rfl) hzl.out hsz.out hone.out ?_; rw [show (wr.alloc (.cells #[Value.int .i64 0, .bool false, .string ⟨#[]⟩, .string ⟨#[]⟩, .string ⟨#[]⟩, .int .i64 0, .slice none 0 0] 37)).setRow wr.heap.size cs.toArray = W3 from hW3.out.symm]; go_frame))
              refine quiet_over (by kernel_rfl) (by kernel_rfl) ?_
              repeat (first | go_big_quiet_step (fail))
              refine wpQuiet_nil ?_
              rintro _ ⟨s7, rfl⟩
              go_wp2
              go_roundw
              case rel => exact ⟨j + 1, by omega, by go_num, by rw [hsn.out, decide_eq_false (fun h => hle' ((pre_iff b T).1 h).1)]; rfl, hbW3.out.trans (s7.2.mono hbW3.out.size)⟩
              case measure => simp [intOf]; omega
        · have hje : j = acts.length := by omega
          subst hje
          rw [List.take_length, hfin.out]
          replace hb5 := Lib.hid hb5
          go_wp2
          go_roundw
          case rel => exact ⟨k + 1, by omega, by go_num, hbW2.out.trans (hb5.out.mono hbW2.out.size)⟩
          case measure => simp [intOf]; omega
    · replace hbk := Lib.hid hbk
      go_wp2
      go_ret
      exact ⟨rfl, h4.out.trans (hbk.out.mono h4.out.size)⟩
end Go.Proofs.Ytbfniokghocfiaa
