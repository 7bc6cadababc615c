/- The walks of played and alive. -/
import Derived.Test.YtbfniokghocfiaaDkQ
namespace Go.Proofs.Ytbfniokghocfiaa
open Go.RowKit Go.Maps Go.Sort

/-- The slice of address A holds the acts. -/
def ActsIn (w : World) (A : Option Addr) (acts : List ActD) : Prop := 0 < acts.length → ∃ b o, A = some ⟨b, o, none⟩ ∧ ∀ (k : Nat) (x : ActD), acts[k]? = some x → ∀ j v, x.cells[j]? = some v → w.cell? ⟨b, o + k * 7 + j, none⟩ = some v
theorem ActsIn.below {w w' : World} {A : Option Addr} {acts : List ActD} {B : Nat} (h : ActsIn w A acts) (hB : w.heap.size ≤ B) (hb : Below B w w') : ActsIn w' A acts := fun h0 => by
  obtain ⟨b, o, e, hc⟩ := h h0
  refine ⟨b, o, e, fun k x hx j v hv => ?_⟩
  have h1 := hc k x hx j v hv
  have hlt : b < w.heap.size := World.block_lt_of_cell? _ _ h1
  rw [hb.cell (p := ⟨b, o + k * 7 + j, none⟩) (by show b < B; omega)]
  exact h1
theorem actSz : (Try.prog.info? 37).map (·.size) = some 7 := by kernel_rfl
def zeroAct : List Value := [.int .i64 0, .bool false, .string ⟨#[]⟩, .string ⟨#[]⟩, .string ⟨#[]⟩, .int .i64 0, .slice none 0 0]
theorem act_one (x : ActD) : ∀ u ∈ x.cells, u.oneCell' = true := by simp [ActD.cells, Value.oneCell', strV]
def PlayRel (w : World) (g : Nat) (S : DS) (wr : World) : Prop := ∃ L, DiskIs wr L g S ∧ (∀ i ∈ L, w.heap.size ≤ i) ∧ Below w.heap.size w wr
theorem PlayRel.turned {w w1 w2 : World} {g : Nat} {S' : DS} {L : List Nat} (hL : ∀ i ∈ L, w.heap.size ≤ i) (hb : Below w.heap.size w w1) (hT : Turned w1 L g S' w2) : PlayRel w g S' w2 := by
  obtain ⟨ht, L', hd', hL'⟩ := hT
  refine ⟨L', hd', fun i hi => ?_, hb.trans (ht.below hb.size hL)⟩
  rcases hL' i hi with h1 | h1
  · exact hL i h1
  · exact Nat.le_trans hb.size h1
set_option maxRecDepth 100000 in
set_option maxHeartbeats 2000000 in
theorem played_any (acts : List ActD) (A : Option Addr) (c : Nat) (w : World) (hA : ActsIn w A acts) (hok : ∀ x ∈ acts, x.Ok) (hl : acts.length ≤ 1466015503680) :
    Calls Try.prog 8 #[.slice A acts.length c] w fun e w' => ∃ g, e = .returned (.pointer (some ⟨g, 0, none⟩)) ∧ PlayRel w g (runs (DS.new 65536) acts) w' := by
  have hnew := Lib.hid (new_any 65536 w (by omega) (by omega))
  replace hA := Lib.hid hA
  replace hok := Lib.hid hok
  go_enter Try.func8, Try.ntmps8
  go_wp2_with fail
  refine hnew.out.mono ?_
  rintro e w1 ⟨g, L, rfl, hd, hL, hb⟩
  replace hd := Lib.hid hd
  replace hL := Lib.hid hL
  replace hb := Lib.hid hb
  go_wp2_with fail
  go_loopw [19] (fun i wr => ∃ k : Nat, k ≤ acts.length ∧ i = .int .i64 k ∧ PlayRel w g (runs (DS.new 65536) (acts.take k)) wr) (fun i _ => acts.length - (intOf i).toNat)
  case atStart => exact ⟨0, Nat.zero_le _, rfl, L, by simpa [runs] using hd.out, hL.out, hb.out⟩
  case round =>
    obtain ⟨k, hk, rfl, Lr, hdr, hLr, hbr⟩ := hrel
    by_cases hlt : k < acts.length
    · obtain ⟨b, o, rfl, hc⟩ := hA.out (by omega)
      have hcr : ∀ j v, acts[k].cells[j]? = some v → wr.cell? ⟨b, o + k * 7 + j, none⟩ = some v := fun j v hv => by
        have h1 := hc k acts[k] (List.getElem?_eq_getElem hlt) j v hv
        have hlt : b < w.heap.size := World.block_lt_of_cell? _ _ h1
        rw [hbr.cell (p := ⟨b, o + k * 7 + j, none⟩) hlt]
        exact h1
      have hxo := hok.out acts[k] (List.getElem_mem hlt)
      have hinv : Inv (runs (DS.new 65536) (acts.take k)) (0 + (acts.take k).length) := Inv.runs _ (Inv.new (by omega) (by omega))
      have hask := hinv.asked (by rw [List.length_take]; omega)
      have htk : runs (DS.new 65536) (acts.take (k + 1)) = acts[k].call.turn (runs (DS.new 65536) (acts.take k)) := by
        rw [List.take_succ_eq_append_getElem hlt, runs_snoc]
      obtain ⟨x, hx⟩ : ∃ x, x = acts[k] := ⟨_, rfl⟩
      obtain ⟨S, hS⟩ : ∃ S, S = runs (DS.new 65536) (acts.take k) := ⟨_, rfl⟩
      rw [← hx] at hcr hxo htk
      rw [← hS] at hdr hask htk
      clear hx hS hinv hc
      have hb1 : Below wr.heap.size wr ((wr.alloc (.cells #[Value.int .i64 0, .bool false, .string ⟨#[]⟩, .string ⟨#[]⟩, .string ⟨#[]⟩, .int .i64 0, .slice none 0 0] 37)).setRow wr.heap.size x.cells.toArray) := below_setRow ((Below.refl _ _).alloc (Nat.le_refl _) _) (Nat.le_refl _) _
      have hbox : Blk ((wr.alloc (.cells #[Value.int .i64 0, .bool false, .string ⟨#[]⟩, .string ⟨#[]⟩, .string ⟨#[]⟩, .int .i64 0, .slice none 0 0] 37)).setRow wr.heap.size x.cells.toArray) wr.heap.size 37 x.cells := (Blk.new_at (cs := zeroAct) rfl).setRow_same _
      obtain ⟨W2, hW2⟩ : ∃ W2, W2 = (wr.alloc (.cells #[Value.int .i64 0, .bool false, .string ⟨#[]⟩, .string ⟨#[]⟩, .string ⟨#[]⟩, .int .i64 0, .slice none 0 0] 37)).setRow wr.heap.size x.cells.toArray := ⟨_, rfl⟩
      rw [← hW2] at hb1 hbox
      have hbW : Below w.heap.size w W2 := hbr.trans (hb1.mono hbr.size)
      have hdW := hdr.below hb1
      have hcall : Hid (Calls Try.prog 15 #[.pointer (some ⟨g, 0, none⟩), .agg x.cells.toArray] W2 fun e w' => e = .returned (.int .i64 (x.call.errno S)) ∧ Turned W2 Lr g (x.call.turn S) w') := Lib.hid (by
        obtain ⟨bn, bs, v, hda, rfl⟩ := hdW
        exact call_any g bn bs v S x W2 hda hask hxo)
      have hsz : Hid ((Try.prog.info? 37).map (·.size) = some x.cells.length) := Lib.hid actSz
      have hone := Lib.hid (act_one x)
      have hzl : Hid (zeroAct.length = x.cells.length) := Lib.hid rfl
      obtain ⟨cs, hcs⟩ : ∃ cs, cs = x.cells := ⟨_, rfl⟩
      rw [← hcs] at hcr hbox hcall hsz hone hzl hW2
      replace hcs := Lib.hid hcs
      replace hW2 := Lib.hid hW2
      replace hcr := Lib.hid hcr
      replace hbox := Lib.hid hbox
      replace hdW := Lib.hid hdW
      replace hbW := Lib.hid hbW
      replace htk := Lib.hid htk
      replace hLr := Lib.hid hLr
      clear hdr hbr hb1 hask hxo
      have i1 : (0 : Int) ≤ (k : Int) := by omega
      have i2 : (k : Int) < (acts.length : Int) := by omega
      go_wp2_with (first
        | (refine wpList_load_mid rfl 37 (.tmp 21) rfl b (o + k * 7) rfl cs _ hcr.out Try.underlying37 rfl hsz.out ?_; go_frame)
        | (refine wpList_store_blk rfl 37 (.tmp 6) (.tmp 22) rfl wr.heap.size cs rfl rfl 37 zeroAct (Blk.new_at rfl) hzl.out hsz.out hone.out ?_; rw [show (wr.alloc (.cells #[Value.int .i64 0, .bool false, .string ⟨#[]⟩, .string ⟨#[]⟩, .string ⟨#[]⟩, .int .i64 0, .slice none 0 0] 37)).setRow wr.heap.size cs.toArray = W2 from hW2.out.symm]; go_frame)
        | (refine wpList_load_blk rfl 37 (.tmp 6) rfl wr.heap.size rfl 37 cs hbox.out _ Try.underlying37 rfl hsz.out ?_; go_frame)
        | (go_at_call 15; refine hcall.out.mono ?_; rintro e w' ⟨rfl, hT⟩; replace hT := Lib.hid hT))
      go_roundw
      case rel => exact ⟨k + 1, by omega, by go_num, by rw [htk.out]; exact PlayRel.turned hLr.out hbW.out hT.out⟩
      case measure => simp [intOf]; omega
    · have hke : k = acts.length := by omega
      subst hke
      replace hdr := Lib.hid hdr
      replace hLr := Lib.hid hLr
      replace hbr := Lib.hid hbr
      go_wp2
      go_ret
      exact ⟨g, rfl, Lr, by have := hdr.out; rwa [List.take_length] at this, hLr.out, hbr.out⟩
end Go.Proofs.Ytbfniokghocfiaa
