/- The walk of refs.May. -/
import Derived.Test.YtlenmkemjaaaoaaDoorRfO
namespace Go.Proofs.YtlenmkemjaaaoaaDoor
open Go.RowKit

def prevN (T : Tab) : Nat → Option Str
  | 0 => none
  | k + 1 => (T[k]?).map (·.name)
theorem prevN_succ (T : Tab) (k : Nat) (hk : k < T.length) : prevN T (k + 1) = some T[k].name := by simp [prevN, hk]
theorem mayF_at (T : Tab) (k : Nat) (hk : k < T.length) : mayF (prevN T k) (T.drop k) =
    if nmOk T[k].name then (if preOk (prevN T k) T[k].name then (if T[k].heads = [] then 5 else if headsE T[k].heads = 0 then mayF (prevN T (k + 1)) (T.drop (k + 1)) else headsE T[k].heads) else 7) else 11 := by
  rw [prevN_succ T k hk]
  conv => lhs; rw [List.drop_eq_getElem_cons hk]
  rfl
theorem mayF_end (p : Option Str) : mayF p [] = 0 := by cases p <;> rfl
def zeroBr : List Value := [.string ⟨#[]⟩, .slice none 0 0]
/-- A box that has been made and written. -/
theorem boxed (w : World) (T : TypeId) (z cs : List Value) : Blk ((w.alloc (.cells z.toArray T)).setRow w.heap.size cs.toArray) w.heap.size T cs ∧ Below w.heap.size w ((w.alloc (.cells z.toArray T)).setRow w.heap.size cs.toArray) :=
  ⟨(Blk.new_at (cs := z) rfl).setRow_same cs, below_setRow ((Below.refl _ _).alloc (Nat.le_refl _) _) (Nat.le_refl _) _⟩
theorem toL (a : Str) : (⟨a.toArray⟩ : ByteArray).toList = a := by rw [Lib.toList_data]
attribute [local go_sem] toL
theorem ret_m {a b : Int} (h : a = b) : Ending.returned (.int .i64 a) = .returned (.int .i64 b) := by rw [h]
set_option maxRecDepth 100000 in
set_option maxHeartbeats 4000000 in
theorem may_any (T : Tab) (v : Value) (ok : Nat → Prop) (w : World) (h : TabIs w ok v T) (hf : TFit T) :
    Calls Tryd.prog 15 #[v] w fun e w' => e = .returned (.int .i64 (mayE T)) ∧ Below w.heap.size w w' := by
  obtain ⟨A, c, rfl, hc⟩ := h.form
  have hlen : T.length ≤ 3518437208832 := hf.len
  have hok := Lib.hid hf.ok
  replace h := Lib.hid h
  clear hc hf
  by_cases h32 : 32 < T.length
  · have he : Hid (mayE T = 4) := Lib.hid (by unfold mayE; rw [if_pos h32])
    go_enter Tryd.func15, Tryd.ntmps15
    go_wp2
    go_ret
    exact ⟨ret_m he.out.symm, Below.refl _ _⟩
  · have h32' : T.length ≤ 32 := by omega
    have he : Hid (mayE T = mayF none T) := Lib.hid (by unfold mayE; rw [if_neg h32])
    clear h32
    go_enter Tryd.func15, Tryd.ntmps15
    go_wp2
    go_loopw [11] (fun i wr => ∃ k : Nat, k ≤ T.length ∧ i = .int .i64 k ∧ Hid (mayF none T = mayF (prevN T k) (T.drop k)) ∧ Below w.heap.size w wr) (fun i _ => T.length - (intOf i).toNat)
    case atStart => exact ⟨0, Nat.zero_le _, rfl, Lib.hid rfl, Below.refl _ _⟩
    case round =>
      obtain ⟨k, hk, rfl, hm, hb⟩ := hrel
      by_cases hlt : k < T.length
      · have hw0 := h.out.stayB hb
        obtain ⟨b, o, u, rfl, _, hbl, hU, c0, c1⟩ := hw0.br k hlt
        have hat := mayF_at T k hlt
        rw [← hm.out] at hat
        have hbf := hok.out T[k] (List.getElem_mem hlt)
        obtain ⟨n, hn⟩ : ∃ n, n = T[k].name := ⟨_, rfl⟩
        obtain ⟨hs, hhs⟩ : ∃ hs, hs = T[k].heads := ⟨_, rfl⟩
        have hnl : n.length ≤ 140737488355328 := by rw [hn]; exact hbf.name
        have hhf : HFit hs := by rw [hhs]; exact hbf.heads
        rw [← hn, ← hhs] at hat
        rw [← hn] at c0
        rw [← hhs] at hU
        obtain ⟨UA, uc, rfl, huc, _⟩ := id hU
        have hhl : hs.length ≤ 4398046511104 := hhf.len
        have hcells := Lib.hid (two_cells c0 c1)
        obtain ⟨hB1, hb1⟩ := boxed wr 61 zeroBr [strV n, .slice UA hs.length uc]
        obtain ⟨W1, hW1⟩ : ∃ W1, W1 = (wr.alloc (.cells zeroBr.toArray 61)).setRow wr.heap.size [strV n, .slice UA hs.length uc].toArray := ⟨_, rfl⟩
        rw [← hW1] at hB1 hb1
        replace hW1 := Lib.hid hW1
        have hone : Hid (∀ v ∈ [strV n, Value.slice UA hs.length uc], v.oneCell' = true) := Lib.hid (by simp [strV, Value.oneCell'])
        have hnm := Lib.hid (nm_any n W1 hnl)
        have hU1 := hU.stayB hb1
        have hbW := hb.trans (hb1.mono hb.size)
        replace hat := Lib.hid hat
        have hbs := hb1.size
        have hgl : wr.heap.size < W1.heap.size := hB1.lt
        have d0 : W1.cell? ⟨wr.heap.size, 0, none⟩ = some (.string ⟨n.toArray⟩) := by rw [hB1.cell]; rfl
        have d1 : W1.cell? ⟨wr.heap.size, 1, none⟩ = some (.slice UA hs.length uc) := by rw [hB1.cell]; rfl
        have i1 : (0 : Int) ≤ (k : Int) := by omega
        have i2 : (k : Int) < (T.length : Int) := by omega
        have hp : Hid (0 < k → ∃ p, preOk (prevN T k) n = lessS p n ∧ W1.cell? ⟨b, o + (k - 1) * 2, none⟩ = some (.string ⟨p.toArray⟩)) := Lib.hid (fun h0 => by
          obtain ⟨b', o', u', e', _, hbl', _, c0', _⟩ := hw0.br (k - 1) (by omega)
          cases e'
          refine ⟨T[k - 1].name, ?_, ?_⟩
          · obtain ⟨j, rfl⟩ : ∃ j, k = j + 1 := ⟨k - 1, by omega⟩
            rw [prevN_succ T j (by omega)]
            rfl
          · rw [hb1.cell (p := ⟨b, _, none⟩) hbl']; exact c0')
        clear hn hhs hbf hw0 c0 c1 hm hU
        cases hno : nmOk n with
        | false =>
          rw [hno] at hnm hat
          have hfin : Hid (mayE T = 11) := Lib.hid (by rw [he.out, hat.out]; rfl)
          clear hno hat
          go_wp2_with (first
            | (refine wpList_load_at 61 (.tmp 14) rfl rfl b (o + k * 2) rfl [strV n, .slice UA hs.length uc] hcells.out _ Tryd.underlying61 rfl brSz ?_; go_frame)
            | (refine wpList_store_blk rfl 61 (.tmp 4) (.tmp 15) rfl wr.heap.size [strV n, .slice UA hs.length uc] rfl rfl 61 zeroBr (Blk.new_at rfl) rfl brSz hone.out ?_; rw [show (wr.alloc (Obj.cells #[Value.string ⟨#[]⟩, Value.slice none 0 0] 61)).setRow wr.heap.size [strV n, .slice UA hs.length uc].toArray = W1 from hW1.out.symm]; go_frame)
            | (go_at_call 39; refine hnm.out.mono ?_; rintro e w' ⟨rfl, rfl⟩))
          go_ret
          exact ⟨ret_m hfin.out.symm, hbW⟩
        | true =>
          rw [hno] at hnm hat
          replace hat : Hid (mayF none T = if preOk (prevN T k) n then (if hs = [] then 5 else if headsE hs = 0 then mayF (prevN T (k + 1)) (T.drop (k + 1)) else headsE hs) else 7) := Lib.hid (by rw [hat.out, if_pos rfl])
          clear hno
          go_wp2_with (first
            | (refine wpList_load_at 61 (.tmp 14) rfl rfl b (o + k * 2) rfl [strV n, .slice UA hs.length uc] hcells.out _ Tryd.underlying61 rfl brSz ?_; go_frame)
            | (refine wpList_store_blk rfl 61 (.tmp 4) (.tmp 15) rfl wr.heap.size [strV n, .slice UA hs.length uc] rfl rfl 61 zeroBr (Blk.new_at rfl) rfl brSz hone.out ?_; rw [show (wr.alloc (Obj.cells #[Value.string ⟨#[]⟩, Value.slice none 0 0] 61)).setRow wr.heap.size [strV n, .slice UA hs.length uc].toArray = W1 from hW1.out.symm]; go_frame)
            | (go_at_call 39; refine hnm.out.mono ?_; rintro e w' ⟨rfl, rfl⟩))
          rcases Nat.eq_zero_or_pos k with hk0 | hk1
          focus
            subst hk0
            have g0 : decide (0 < ((0 : Nat) : Int)) = false := by simp
            replace hat : Hid (mayF none T = if hs = [] then 5 else if headsE hs = 0 then mayF (prevN T (0 + 1)) (T.drop (0 + 1)) else headsE hs) := Lib.hid (by rw [hat.out]; rfl)
            go_quiet (fail)
          rotate_left
          focus
            have g0 : decide (0 < (k : Int)) = true := by simpa using hk1
            obtain ⟨p, hpo, cp⟩ := hp.out hk1
            obtain ⟨t, ht⟩ : ∃ t, t = lessS p n := ⟨_, rfl⟩
            have htl : Op.bytesLess p n = t := ht.symm
            rw [hpo, ← ht] at hat
            clear hpo ht
            have e1 : IntKind.i64.wrap ((k : Int) - 1) = (k : Int) - 1 := IntWalk.i64_in _ (by omega)
            have e2 : (0 : Int) ≤ (k : Int) - 1 := by omega
            have e3 : (k : Int) - 1 < (T.length : Int) := by omega
            have e4 : ((k : Int) - 1).toNat = k - 1 := by omega
            go_quiet (fail)
            cases t
            · have hfin : Hid (mayE T = 7) := Lib.hid (by rw [he.out, hat.out]; rfl)
              clear hat
              go_wp2
              go_ret
              exact ⟨ret_m hfin.out.symm, below_drewN hbW nq⟩
            replace hat : Hid (mayF none T = if hs = [] then 5 else if headsE hs = 0 then mayF (prevN T (k + 1)) (T.drop (k + 1)) else headsE hs) := Lib.hid (by rw [hat.out, if_pos rfl])
            clear e1 e2 e3 e4 htl cp
          all_goals
            have hB2 : Blk (W1.drewN nq) wr.heap.size 61 [strV n, .slice UA hs.length uc] := hB1.drewN nq
            have hb2 : Below w.heap.size w (W1.drewN nq) := below_drewN hbW nq
            have hU2 : HdIs (W1.drewN nq) ok (.slice UA hs.length uc) hs := hU1
            replace hU2 := Lib.hid hU2
            clear hU1 hB1 hb1 hbW d0 d1 hW1 hp hnm hbs hgl g0
            generalize W1.drewN nq = W2 at hB2 hb2 hU2 ⊢
            have d1 : W2.cell? ⟨wr.heap.size, 1, none⟩ = some (.slice UA hs.length uc) := by rw [hB2.cell]; rfl
            clear hB2
            by_cases h0 : hs.length = 0
            · have g1 : ((hs.length : Int) == 0) = true := by simp [h0]
              have hfin : Hid (mayE T = 5) := Lib.hid (by rw [he.out, hat.out, if_pos (List.eq_nil_of_length_eq_zero h0)])
              clear hat h0
              go_wp2
              go_ret
              exact ⟨ret_m hfin.out.symm, hb2⟩
            · have g1 : ((hs.length : Int) == 0) = false := by rw [beq_eq_false_iff_ne]; omega
              have hne : hs ≠ [] := fun e => h0 (by rw [e]; rfl)
              have hat2 := hat.out
              rw [if_neg hne] at hat2
              have hcall := Lib.hid (heads_any hs _ ok W2 hU2.out hhf)
              obtain ⟨x, hx⟩ : ∃ x, x = headsE hs := ⟨_, rfl⟩
              rw [← hx] at hat2 hcall
              clear hat h0 hne hx
              by_cases hx0 : x = 0
              · subst hx0
                have hnext := Lib.hid (hat2.trans (if_pos rfl))
                clear hat2
                go_wp2_with ((go_at_call 40; refine hcall.out.mono ?_; rintro e w3 ⟨rfl, hb3⟩))
                go_roundw
                case rel => first | exact ⟨k + 1, by omega, by go_num, hnext, hb2.trans (hb3.mono hb2.size)⟩ | exact ⟨0 + 1, by omega, by go_num, hnext, hb2.trans (hb3.mono hb2.size)⟩
                case measure => simp [intOf]; omega
              · have g2 : (x != 0) = true := by simpa using hx0
                have hfin : Hid (mayE T = x) := Lib.hid (by rw [he.out, hat2, if_neg hx0])
                clear hat2 hx0
                go_wp2_with ((go_at_call 40; refine hcall.out.mono ?_; rintro e w3 ⟨rfl, hb3⟩))
                go_ret
                exact ⟨ret_m hfin.out.symm, hb2.trans (hb3.mono hb2.size)⟩
      · obtain rfl : k = T.length := by omega
        have hf : Hid (mayE T = 0) := Lib.hid (by rw [he.out, hm.out, List.drop_length, mayF_end])
        go_wp2
        go_ret
        exact ⟨ret_m hf.out.symm, hb⟩
end Go.Proofs.YtlenmkemjaaaoaaDoor
