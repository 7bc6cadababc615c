/- The walk of the law RefsPrints. -/
import Derived.Test.YtlenmkemjaaaoaaDoorRs
import Derived.Test.YtlenmkemjaaaoaaDoorRn
namespace Go.Proofs.YtlenmkemjaaaoaaDoor
open Go.RowKit
attribute [local go_sem] toL

set_option maxRecDepth 100000 in
set_option maxHeartbeats 4000000 in
theorem prints_any (T : Tab) (v : Value) (ok : Nat → Prop) (w : World) (h : TabIs w ok v T) (hf : TFit T) :
    Calls Tryd.prog 3 #[v] w fun e w' => e = .returned (.bool true) ∧ Below w.heap.size w w' := by
  have hp := Lib.hid (fun W (hb : Below w.heap.size w W) => print_any T v ok W (h.stayB hb) hf)
  have hr := Lib.hid (fun W (hb : Below w.heap.size w W) => rprint_any T v ok W (h.stayB hb) hf)
  have hm := Lib.hid (fun W (hb : Below w.heap.size w W) => may_any T v ok W (h.stayB hb) hf)
  have ha := Lib.hid alive_any
  obtain ⟨A, c, rfl, hc⟩ := h.form
  obtain ⟨t, ht⟩ : ∃ t, t = printT T := ⟨_, rfl⟩
  obtain ⟨m, hme⟩ : ∃ m, m = mayE T := ⟨_, rfl⟩
  rw [← ht, ← hme] at hp hr
  rw [← hme] at hm
  unfold strV at hp hr
  have hsz : (⟨t.toArray⟩ : ByteArray).size = t.length := strLn t
  have h0 : Below w.heap.size w w := Below.refl _ _
  clear ht hme h
  go_enter Tryd.func3, Tryd.ntmps3
  go_wp2_with (first
    | (go_at_call 13; (with_reducible refine (hp.out _ h0).mono ?_); rintro e w1 ⟨rfl, hb1⟩)
    | (go_at_call 14; (with_reducible refine (hr.out _ hb1).mono ?_); rintro e w2 ⟨rfl, hb2'⟩; have hb2 := hb1.trans (hb2'.mono hb1.size))
    | (go_at_call 15; (with_reducible refine (hm.out _ hb2).mono ?_); rintro e w3 ⟨rfl, hb3'⟩; have hb3 := hb2.trans (hb3'.mono hb2.size))
    | (go_at_call 16; (with_reducible refine (ha.out _).mono ?_); rintro e w4 ⟨rfl, hb4'⟩; have hb4 := hb3.trans (hb4'.mono hb3.size)))
  go_ret
  exact ⟨rfl, hb4⟩
end Go.Proofs.YtlenmkemjaaaoaaDoor
