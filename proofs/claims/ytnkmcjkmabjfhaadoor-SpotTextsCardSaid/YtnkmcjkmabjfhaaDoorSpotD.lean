/- The walks of the reference's digits and Text. -/
import Derived.Test.YtnkmcjkmabjfhaaDoorSpotR
import Derived.Test.YtnkmcjkmabjfhaaDoorBelowQ
namespace Go.Proofs.YtnkmcjkmabjfhaaDoor
open Go.RowKit

theorem conv_one (w : World) (b : Nat) (x : UInt8) (h : w.cell? ⟨b, 0, none⟩ = some (B x)) : (convert 66 9 (.slice (some ⟨b, 0, none⟩) 1 1)).run Tryd.prog w = .ok (.string ⟨#[x]⟩) w := by
  have hr : Rd w (fun _ => True) (some ⟨b, 0, none⟩) ([x].map B) := fun _ => ⟨_, rfl, trivial, fun j u hu => by
    cases j with
    | zero => simp at hu; subst hu; rw [addr_add]; exact h
    | succ j => simp at hu⟩
  exact run_to_string w 66 5 9 Tryd.underlying66 Tryd.underlying5 Tryd.underlying9 _ [x] 1 hr
theorem bv_dig {d : Nat} (h : d < 10) : bv (UInt8.ofNat (48 + d)) = 48 + (d : Int) := by unfold bv; rw [dig_toNat h]; omega
theorem bcell {W w1 : World} (hb : Below W.heap.size W w1) : ∀ b o, b < W.heap.size → w1.cell? ⟨b, o, none⟩ = W.cell? ⟨b, o, none⟩ := fun b o h => hb.cell (p := ⟨b, o, none⟩) h
attribute [local go_sem ↓] Go.wp_at_zero Go.wp_at_succ
set_option maxRecDepth 100000 in
set_option maxHeartbeats 2000000 in
theorem rdigits_any (n : Nat) : n ≤ 1125899906842624 → ∀ w : World,
    Calls Tryd.prog 35 #[.int .i64 (n : Int)] w fun e w' => e = .returned (.string ⟨(Lib.decDigits n).toArray⟩) ∧ Below w.heap.size w w' := by
  refine dec_ind (P := fun n => n ≤ 1125899906842624 → ∀ w : World, Calls Tryd.prog 35 #[.int .i64 (n : Int)] w fun e w' => e = .returned (.string ⟨(Lib.decDigits n).toArray⟩) ∧ Below w.heap.size w w') ?_ ?_ n
  · intro n h hn w
    have hd := bv_dig h
    have hds := dec_small h
    obtain ⟨x, hx⟩ : ∃ x, x = UInt8.ofNat (48 + n) := ⟨_, rfl⟩
    rw [← hx] at hd hds
    obtain ⟨s, hs⟩ : ∃ s : ByteArray, s = ⟨(Lib.decDigits n).toArray⟩ := ⟨_, rfl⟩
    have hs2 : s = ⟨#[x]⟩ := by rw [hs, hds]
    rw [← hs]
    clear hx hs hds
    subst hs2
    have hd2 : 48 + (n : Int) = bv x := hd.symm
    clear hd
    have hlt : bv x < 256 := bv_lt x
    have hlt0 : 0 ≤ bv x := bv_nonneg x
    have hcv := fun w b h => conv_one w b x h
    go_enter Tryd.func35, Tryd.ntmps35
    go_wp2
    go_ret
    exact ⟨rfl, (Below.refl _ _).alloc (Nat.le_refl _) _⟩
  · intro n h ih hn w
    have hm : n / 10 ≤ 1125899906842624 := by omega
    have ih2 := fun w => ih hm w
    have ec : ((n / 10 : Nat) : Int) = (n : Int) / 10 := by omega
    rw [ec] at ih2
    have hd := bv_dig (d := n % 10) (by omega)
    have hds := dec_big h
    have hyl := dec_len hm
    obtain ⟨x, hx⟩ : ∃ x, x = UInt8.ofNat (48 + n % 10) := ⟨_, rfl⟩
    obtain ⟨y, hy⟩ : ∃ y, y = Lib.decDigits (n / 10) := ⟨_, rfl⟩
    rw [← hx] at hd hds
    rw [← hy] at hds ih2 hyl
    obtain ⟨s, hs⟩ : ∃ s : ByteArray, s = ⟨(Lib.decDigits n).toArray⟩ := ⟨_, rfl⟩
    have hs2 : s = ⟨(y ++ [x]).toArray⟩ := by rw [hs, hds]
    rw [← hs]
    have hsum : (⟨y.toArray⟩ : ByteArray).size + (⟨#[x]⟩ : ByteArray).size ≤ 9223372036854775807 := by simp [ByteArray.size]; omega
    have hadd := fun w => run_string_add_sum (P := Tryd.prog) w ⟨y.toArray⟩ ⟨#[x]⟩ hsum
    have e1 : (⟨y.toArray⟩ : ByteArray) ++ (⟨#[x]⟩ : ByteArray) = ⟨(y ++ [x]).toArray⟩ := str_append y [x]
    rw [e1, ← hs2] at hadd
    obtain ⟨sy, hsy⟩ : ∃ sy : ByteArray, sy = ⟨y.toArray⟩ := ⟨_, rfl⟩
    rw [← hsy] at hadd ih2
    have hn10 : ¬ ((n : Int) < 10) := by omega
    have hd2 : 48 + ((n : Int) % 10) = bv x := by rw [hd]; omega
    replace ih2 := Lib.hid ih2
    clear hx hs hs2 hds hd hsum e1 hy hsy hyl ec ih h hm
    have hlt : bv x < 256 := bv_lt x
    have hlt0 : 0 ≤ bv x := bv_nonneg x
    have hcv := fun w b h => conv_one w b x h
    have w1 : IntKind.i64.wrap ((n : Int) / 10) = (n : Int) / 10 := IntWalk.i64_in _ (by omega)
    have w2 : (n : Int).tmod 10 = (n : Int) % 10 := IntWalk.rem_in _ _ (by omega)
    have w3 : IntKind.i64.wrap (bv x) = bv x := IntWalk.i64_in _ (by omega)
    have w4 : IntKind.u8.wrap (bv x) = bv x := by unfold bv; rw [u8_wrap_eq, Nat.mod_eq_of_lt x.toNat_lt]
    go_enter Tryd.func35, Tryd.ntmps35
    go_wp2_with fail
    go_region_with (go_at_call 35; refine (ih2.out _).mono ?_; rintro e w1 ⟨rfl, hb1⟩; have hbc := bcell hb1)
    all_goals
      go_wp2
      go_ret
      first
        | (have hb0 : Below w.heap.size w w.drew := (Below.refl _ _).drew
           have hb2 := hb0.trans (hb1.mono hb0.size)
           exact ⟨rfl, hb2.alloc hb2.size _⟩)
        | (have hb0 : Below w.heap.size w (w.drew.alloc (.cells #[.int .u8 (bv x)] 5)) := ((Below.refl _ _).drew).alloc (Nat.le_refl _) _
           exact ⟨rfl, hb0.trans (hb1.mono hb0.size)⟩)

set_option maxRecDepth 100000 in
set_option maxHeartbeats 2000000 in
theorem rtext_any (p : Nat × Nat) (h1 : p.1 ≤ 1125899906842624) (h2 : p.2 ≤ 1125899906842624) (w : World) :
    Calls Tryd.prog 28 #[SV p] w fun e w' => e = .returned (.string ⟨(textS p).toArray⟩) ∧ Below w.heap.size w w' := by
  have d1 := dec_len h1
  have d2 := dec_len h2
  obtain ⟨p1, p2⟩ := p
  simp only at h1 h2 d1 d2
  have s1 : (⟨(Lib.decDigits p1).toArray⟩ : ByteArray).size + (⟨#[58]⟩ : ByteArray).size ≤ 9223372036854775807 := by simp [ByteArray.size]; omega
  have s2 : (⟨(Lib.decDigits p1 ++ [58]).toArray⟩ : ByteArray).size + (⟨(Lib.decDigits p2).toArray⟩ : ByteArray).size ≤ 9223372036854775807 := by simp [ByteArray.size]; omega
  have a1 := fun w => run_string_add_sum (P := Tryd.prog) w ⟨(Lib.decDigits p1).toArray⟩ ⟨#[58]⟩ s1
  have a2 := fun w => run_string_add_sum (P := Tryd.prog) w ⟨(Lib.decDigits p1 ++ [58]).toArray⟩ ⟨(Lib.decDigits p2).toArray⟩ s2
  have e1 : (⟨(Lib.decDigits p1).toArray⟩ : ByteArray) ++ (⟨#[58]⟩ : ByteArray) = ⟨(Lib.decDigits p1 ++ [58]).toArray⟩ := str_append _ [58]
  have e2 : (⟨(Lib.decDigits p1 ++ [58]).toArray⟩ : ByteArray) ++ (⟨(Lib.decDigits p2).toArray⟩ : ByteArray) = ⟨(textS (p1, p2)).toArray⟩ := by rw [str_append]; simp [textS]
  rw [e1] at a1
  rw [e2] at a2
  clear e1 e2 s1 s2 d1 d2
  go_enter Tryd.func28, Tryd.ntmps28
  go_wp2_with fail
  have hB : Blk (w.alloc (.cells #[.int .i64 (p1 : Int), .int .i64 (p2 : Int)] 26)) w.heap.size 26 [.int .i64 (p1 : Int), .int .i64 (p2 : Int)] := Blk.new_at rfl
  have hb0 : Below w.heap.size w (w.alloc (.cells #[.int .i64 (p1 : Int), .int .i64 (p2 : Int)] 26)) := (Below.refl _ _).alloc (Nat.le_refl _) _
  generalize w.alloc (.cells #[.int .i64 (p1 : Int), .int .i64 (p2 : Int)] 26) = w1 at hB hb0 ⊢
  have hc0 : ∀ s : Over w1, s.1.cell? ⟨w.heap.size, 0, none⟩ = some (.int .i64 (p1 : Int)) := fun s => by rw [(blk_over hB s).cell]; rfl
  have hc1 : ∀ s : Over w1, s.1.cell? ⟨w.heap.size, 1, none⟩ = some (.int .i64 (p2 : Int)) := fun s => by rw [(blk_over hB s).cell]; rfl
  haveI := over_nonempty w1
  refine quiet_over (by kernel_rfl) (by kernel_rfl) ?_
  repeat (go_big_quiet_step ((go_at_call 35; exact calls_over _ (rdigits_any _ (by omega) _))))
  refine wpQuiet_nil ?_
  rintro _ ⟨s, rfl⟩
  go_wp2
  go_ret
  exact ⟨rfl, hb0.trans (s.2.mono hb0.size)⟩
end Go.Proofs.YtnkmcjkmabjfhaaDoor
