/- The walk of the law's spoil: a table is written over; nothing else is turned. -/
import Derived.Test.YtlenmkemjaaaoaaDoorRfOc
namespace Go.Proofs.YtlenmkemjaaaoaaDoor
open Go.RowKit

/-- The blocks of tables that were made from lo on and stood in w1. -/
def TbK (w1 : World) (lo b : Nat) : Prop := lo ≤ b ∧ ((∃ cs, Blk w1 b 61 cs) ∨ ∃ cs, Blk w1 b 57 cs)
/-- Nothing but such blocks was turned. -/
structure Spoilt (ok : Nat → Prop) (w w' : World) : Prop where
  os : w'.os = w.os
  tape : w'.tape = w.tape
  output : w'.output = w.output
  size : w.heap.size ≤ w'.heap.size
  block : ∀ i, i < w.heap.size → ¬ ok i → w'.heap[i]? = w.heap[i]?
theorem Spoilt.refl (ok : Nat → Prop) (w : World) : Spoilt ok w w := ⟨rfl, rfl, rfl, Nat.le_refl _, fun _ _ _ => rfl⟩
theorem Spoilt.trans {ok : Nat → Prop} {w w1 w' : World} (h : Spoilt ok w w1) (h' : Spoilt ok w1 w') : Spoilt ok w w' :=
  ⟨h'.os.trans h.os, h'.tape.trans h.tape, h'.output.trans h.output, Nat.le_trans h.size h'.size, fun i hi ho => (h'.block i (Nat.lt_of_lt_of_le hi h.size) ho).trans (h.block i hi ho)⟩
theorem Spoilt.setRow {ok : Nat → Prop} {w w1 : World} (h : Spoilt ok w w1) {g : Nat} (hg : ok g) (c : Array Value) : Spoilt ok w (w1.setRow g c) := by
  have hb : Below g w1 (w1.setRow g c) := below_setRow (Below.refl _ _) (Nat.le_refl _) _
  have hb2 := setRow_grown' w1 0 g c
  refine h.trans ⟨hb.os, hb.tape, hb.output, hb.size, fun i hi ho => hb2.block i hi (fun e => ?_)⟩
  have e' : i = g := Option.some.inj e
  exact ho (e' ▸ hg)
def d99 : Str := 99 :: List.replicate 31 0
theorem build99 (w : World) : (Instr.build 57 #[(0, .int .u8 99)]).run Tryd.prog w = .ok (.agg (d99.map B).toArray) w := by kernel_rfl
def spoiltV : List Value := [.string ⟨#[115, 112, 111, 105, 108, 116]⟩, .slice none 0 0]
theorem buildS (w : World) : (Instr.build 61 #[(0, .string ⟨#[115, 112, 111, 105, 108, 116]⟩)]).run Tryd.prog w = .ok (.agg spoiltV.toArray) w := by kernel_rfl
theorem spliced {α : Type} {L cs : List α} {off j : Nat} (h : off + cs.length ≤ L.length) (hj : off + cs.length ≤ j) : (splice L off cs)[j]? = L[j]? := by
  unfold splice
  have e1 : (L.take off).length = off := by rw [List.length_take]; omega
  rw [List.getElem?_append_right (by rw [e1]; omega), e1, List.getElem?_append_right (by omega), List.getElem?_drop]
  congr 1
  omega
structure SpI (w1 : World) (lo : Nat) (w : World) (g : Nat) (cur0 : List Value) (k : Nat) (wr : World) : Prop where
  sp : Spoilt (TbK w1 lo) w wr
  row : ∃ cur, Blk wr g 61 cur ∧ cur.length = cur0.length ∧ ∀ j, k * 2 ≤ j → cur[j]? = cur0[j]?
  dig : ∀ b cs, lo ≤ b → Blk w1 b 57 cs → ∃ cs', Blk wr b 57 cs' ∧ cs'.length = cs.length
theorem blk_tag {w : World} {b : Nat} {t t' : TypeId} {cs cs' : List Value} (h : Blk w b t cs) (h' : Blk w b t' cs') : t = t' := h.unique h'
theorem SpI.setDig {w1 : World} {lo : Nat} {w : World} {g : Nat} {cur0 : List Value} {k : Nat} {wr : World} (h : SpI w1 lo w g cur0 k wr) {b : Nat} {cs cs' : List Value} (hlo : lo ≤ b) (h1 : Blk w1 b 57 cs) (new : List Value) (h2 : Blk wr b 57 cs') (hn : new.length = cs.length) : SpI w1 lo w g cur0 k (wr.setRow b new.toArray) := by
  obtain ⟨cur, c1, c2, c3⟩ := h.row
  refine ⟨h.sp.setRow ⟨hlo, .inr ⟨_, h1⟩⟩ _, ⟨cur, c1.setRow_far (fun e => ?_) _, c2, c3⟩, fun b' cs2 hb' hB => ?_⟩
  · subst e
    have := blk_tag c1 h2
    revert this; decide
  · by_cases e : b' = b
    · subst e
      refine ⟨new, h2.setRow_same new, ?_⟩
      have e1 : cs2.toArray = cs.toArray := by
        unfold Blk at h1 hB
        rw [h1] at hB
        injection hB with hB
        injection hB with hB
        exact hB.symm
      have e2 := congrArg Array.size e1
      simp only [List.size_toArray] at e2
      rw [hn, e2]
    · obtain ⟨c', k1, k2⟩ := h.dig b' cs2 hb' hB
      exact ⟨c', k1.setRow_far e _, k2⟩
theorem SpI.setBr {w1 : World} {lo : Nat} {w : World} {g : Nat} {cur0 : List Value} {k : Nat} {wr : World} (h : SpI w1 lo w g cur0 k wr) (hlo : lo ≤ g) (h1 : Blk w1 g 61 cur0) (new : List Value) {cur : List Value} (h2 : Blk wr g 61 cur) (hn : new.length = cur0.length) (hj : ∀ j, (k + 1) * 2 ≤ j → new[j]? = cur0[j]?) : SpI w1 lo w g cur0 (k + 1) (wr.setRow g new.toArray) := by
  refine ⟨h.sp.setRow ⟨hlo, .inl ⟨_, h1⟩⟩ _, ⟨new, h2.setRow_same new, hn, hj⟩, fun b' cs2 hb' hB => ?_⟩
  obtain ⟨c', k1, k2⟩ := h.dig b' cs2 hb' hB
  refine ⟨c', k1.setRow_far (fun e => ?_) _, k2⟩
  subst e
  have := blk_tag k1 h2
  revert this; decide
theorem HdIs.blk {w1 : World} {lo : Nat} {A : Option Addr} {n c : Nat} {l : List Str} (h : HdIs w1 (DgAt w1 lo) (.slice A n c) l) (ho : hOk l) (q : Nat) (hq : q < l.length) : ∃ gd od cs, A = some ⟨gd, od, none⟩ ∧ lo ≤ gd ∧ Blk w1 gd 57 cs ∧ od + q * 32 + 32 ≤ cs.length := by
  obtain ⟨b, o, rfl, ⟨h1, cs, h2⟩, _, hc⟩ := h.dig ho q hq
  have hd := ho l[q] (List.getElem_mem hq)
  have := hc 31 _ (List.getElem?_eq_getElem (by rw [List.length_map]; omega))
  rw [h2.cell] at this
  have := (List.getElem?_eq_some_iff.1 this).1
  exact ⟨b, o, cs, rfl, h1, h2, by omega⟩
theorem all99 : ∀ v ∈ d99.map B, v.oneCell' = true := all_B d99
set_option maxRecDepth 100000 in
set_option maxHeartbeats 8000000 in
theorem spoil_any (T : Tab) (v : Value) (w1 : World) (lo : Nat) (w : World) (h : OwnTab w1 lo v T) (hf : TFit T) (hb : Below w1.heap.size w1 w) :
    Calls Tryd.prog 23 #[v] w fun e w' => e = .returned (.tuple #[]) ∧ Spoilt (TbK w1 lo) w w' := by
  obtain ⟨vs, hvl, ho, hh⟩ := h
  have hlen := hf.len
  have hok := Lib.hid hf.ok
  clear hf
  rcases ho.2 with ⟨rfl, h0⟩ | ⟨g, cap, cur0, rfl, hlo, hg, hc1, hc2, hc3, ht⟩
  · have : T = [] := List.eq_nil_of_length_eq_zero h0
    subst this
    go_enter Tryd.func23, Tryd.ntmps23
    go_wp2
    go_loopw [6] (fun i wr => i = .int .i64 0 ∧ Hid (w = wr)) (fun _ _ => 0)
    case atStart => exact ⟨rfl, Lib.hid rfl⟩
    case round =>
      obtain ⟨rfl, hw⟩ := hrel
      go_wp2
      refine bodyPost_end (v := .tuple #[]) (results_none (by rfl) _ _ _) rfl ⟨rfl, ?_⟩
      rw [← hw.out]
      exact Spoilt.refl _ _
  · have hB : Blk w1 g 61 cur0.toList := by unfold Blk; simpa using hg
    obtain ⟨cur, hcur⟩ : ∃ cur, cur = cur0.toList := ⟨_, rfl⟩
    rw [← hcur] at hB ht
    have hcl : cur.length = cap * 2 := by rw [hcur, Array.length_toList]; exact hc3
    have hst : SpI w1 lo w g cur 0 w := ⟨Spoilt.refl _ _, ⟨cur, hB.below hb hB.lt, rfl, fun _ _ => rfl⟩, fun b cs _ hD => ⟨cs, hD.below hb hD.lt, rfl⟩⟩
    have hrowc : Hid (∀ k b, T[k]? = some b → cur[k * 2]? = some (strV b.name) ∧ cur[k * 2 + 1]? = some (vs.getD k undef) ∧ HdIs w1 (DgAt w1 lo) (vs.getD k undef) b.heads) := Lib.hid (fun k b hk => by
      have hkl := (List.getElem?_eq_some_iff.1 hk).1
      have hv : vs[k]? = some vs[k] := List.getElem?_eq_getElem (by omega)
      have hvd : vs.getD k undef = vs[k] := by rw [List.getD_eq_getElem?_getD, hv]; rfl
      obtain ⟨e1, e2⟩ := tCells_at T vs hvl k b _ hk hv
      rw [← ht] at e1 e2
      rw [List.getElem?_take] at e1 e2
      rw [if_pos (by omega)] at e1 e2
      exact ⟨e1, by rw [hvd]; exact e2, by rw [hvd]; exact hh k b _ hk hv⟩)
    obtain ⟨z, hz⟩ : ∃ z : Nat, z = 0 := ⟨_, rfl⟩
    rw [← hz]
    replace hst := Lib.hid hst
    replace hB := Lib.hid hB
    replace hlo := Lib.hid hlo
    replace hcl := Lib.hid hcl
    replace hz := Lib.hid hz
    replace hc1 := Lib.hid hc1
    clear hcur hb hg hc2 hc3 ht hh ho hvl
    go_enter Tryd.func23, Tryd.ntmps23
    go_wp2
    go_loopw [6] (fun i wr => ∃ k : Nat, k ≤ T.length ∧ i = .int .i64 k ∧ SpI w1 lo w g cur k wr) (fun i _ => T.length - (intOf i).toNat)
    case atStart => exact ⟨0, Nat.zero_le _, rfl, hst.out⟩
    case round =>
      clear hst
      obtain ⟨k, hk, rfl, hI⟩ := hrel
      by_cases hlt : k < T.length
      · obtain ⟨cu, b1, b2, b3⟩ := hI.row
        have hTk : T[k]? = some T[k] := List.getElem?_eq_getElem hlt
        obtain ⟨r1, r2, r3⟩ := hrowc.out k _ hTk
        have hhd := (hok.out T[k] (List.getElem_mem hlt)).heads
        obtain ⟨hs, hhs⟩ : ∃ hs, hs = T[k].heads := ⟨_, rfl⟩
        rw [← hhs] at r3 hhd
        obtain ⟨u, hu⟩ : ∃ u, u = vs.getD k undef := ⟨_, rfl⟩
        rw [← hu] at r2 r3
        obtain ⟨UA, uc, rfl, _, _⟩ := id r3
        have hcell : Hid (∀ wr, SpI w1 lo w g cur k wr → wr.cell? ⟨g, z + k * 2 + 1, none⟩ = some (.slice UA hs.length uc)) := Lib.hid (fun wr hI => by
          obtain ⟨cu, b1, b2, b3⟩ := hI.row
          rw [hz.out, Nat.zero_add, b1.cell, b3 _ (by omega), r2])
        have c1 := hcell.out wr hI
        have i1 : (0 : Int) ≤ (k : Int) := by omega
        have i2 : (k : Int) < (T.length : Int) := by omega
        have hhl := hhd.len
        have hho := Lib.hid hhd.ok
        replace r3 := Lib.hid r3
        clear hTk r1 r2 hhs hu hhd b1 b2 b3
        go_wp2
        clear c1
        go_loopw [15] (fun i wr => ∃ q : Nat, q ≤ hs.length ∧ i = .int .i64 q ∧ SpI w1 lo w g cur k wr) (fun i _ => hs.length - (intOf i).toNat)
        case atStart => exact ⟨0, Nat.zero_le _, rfl, hI⟩
        case round =>
          clear hI
          obtain ⟨q, hq, rfl, hI⟩ := hrel
          by_cases hqt : q < hs.length
          · obtain ⟨gd, od, cs, rfl, hgl, hBd, hfit⟩ := r3.out.blk hho.out q hqt
            obtain ⟨cs', hBr, hcl'⟩ := hI.dig gd cs hgl hBd
            have c1 := hcell.out wr hI
            have i3 : (0 : Int) ≤ (q : Int) := by omega
            have i4 : (q : Int) < (hs.length : Int) := by omega
            have hl99 : (d99.map B).length = 32 := rfl
            have hbd := Lib.hid (build99 wr)
            have hnext := Lib.hid (hI.setDig hgl hBd (splice cs' (od + q * 32) (d99.map B)) hBr (by rw [length_splice _ _ _ (by omega), hcl']))
            replace hBr := Lib.hid hBr
            have hfit' : Hid (od + q * 32 + (d99.map B).length ≤ cs'.length) := Lib.hid (by omega)
            replace hfit := Lib.hid hfit
            replace hcl' := Lib.hid hcl'
            replace hgl := Lib.hid hgl
            clear hI hBd hl99
            go_wp2_with (first
              | (refine wpList_run (.build 57 #[(0, .const (.int .u8 99))]) rfl rfl (.agg (d99.map B).toArray) (by kernel_rfl) ?_; go_frame)
              | (refine wpList_store_part rfl 57 (.tmp 25) (.tmp 24) rfl gd (od + q * 32) (d99.map B) rfl rfl 57 cs' hBr.out hfit'.out (by kernel_rfl) all99 ?_; go_frame))
            go_roundw
            case rel => exact ⟨q + 1, by omega, by go_num, hnext.out⟩
            case measure => simp [intOf]; omega
          · obtain rfl : q = hs.length := by omega
            obtain ⟨cu, b1, b2, b3⟩ := hI.row
            have hle : k * 2 + spoiltV.length ≤ cu.length := by
              have := hcl.out; have := hc1.out
              rw [b2]
              show k * 2 + 2 ≤ _
              omega
            have hnext := Lib.hid (hI.setBr hlo.out hB.out (splice cu (k * 2) spoiltV) b1 (by rw [length_splice _ _ _ hle, b2]) (fun j hj => by
              rw [spliced hle (by show k * 2 + 2 ≤ j; omega)]
              exact b3 j (by omega)))
            replace hle := Lib.hid hle
            replace b1 := Lib.hid b1
            have ez : Hid (z + k * 2 = k * 2) := Lib.hid (by rw [hz.out, Nat.zero_add])
            clear hI b2 b3
            go_wp2_with (first
              | (refine wpList_run (.build 61 #[(0, .const (.string ⟨#[115, 112, 111, 105, 108, 116]⟩))]) rfl rfl (.agg spoiltV.toArray) (by kernel_rfl) ?_; go_frame)
              | (refine wpList_store_part rfl 61 (.tmp 30) (.tmp 29) rfl g (z + k * 2) spoiltV rfl rfl 61 cu b1.out (by rw [ez.out]; exact hle.out) (by kernel_rfl) (by simp [spoiltV, Value.oneCell']) ?_; rw [ez.out]; go_frame))
            go_roundw
            case rel => exact ⟨k + 1, by omega, by go_num, hnext.out⟩
            case measure => simp [intOf]; omega
      · obtain rfl : k = T.length := by omega
        have hsp := Lib.hid hI.sp
        clear hI
        go_wp2
        refine bodyPost_end (v := .tuple #[]) (results_none (by rfl) _ _ _) rfl ⟨rfl, hsp.out⟩
end Go.Proofs.YtlenmkemjaaaoaaDoor
