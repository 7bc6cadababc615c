/- Joined: RfGa, RfAl, RfNb, RfW2. -/
import Derived.Test.YtlenmkemjaaaoaaDoorRjLK
import Derived.Test.YtlenmkemjaaaoaaDoorRjQS
import Derived.Test.YtlenmkemjaaaoaaDoorRjSe
import Derived.Test.YtlenmkemjaaaoaaDoorRfF
section
/- The walks of Refs.All and Refs.Get. -/
namespace Go.Proofs.YtlenmkemjaaaoaaDoor
open Go.RowKit

set_option maxRecDepth 100000 in
set_option maxHeartbeats 4000000 in
theorem all_nil (w : World) : Calls Tryd.prog 29 #[.pointer none] w fun e w' => e = .returned (.slice none 0 0) ∧ w' = w := by
  go_enter Tryd.func29, Tryd.ntmps29
  go_wp2
  go_ret
  exact ⟨rfl, rfl⟩
set_option maxRecDepth 100000 in
set_option maxHeartbeats 4000000 in
theorem all_any (rb : Nat) (d br v : Value) (T : Tab) (ok : Nat → Prop) (w : World) (hB : Blk w rb 69 [d, v, br]) (h : TabIs w ok v T) (hf : TFit T) :
    Calls Tryd.prog 29 #[.pointer (some ⟨rb, 0, none⟩)] w (OwnTo w T) := by
  obtain ⟨A, c, rfl, hc⟩ := h.form
  have ho := Lib.hid (own_any T _ ok w h hf)
  have h1 := hB.cell 1
  clear h
  go_enter Tryd.func29, Tryd.ntmps29
  go_wp2_with (first
    | (go_at_call 48; (with_reducible refine ho.out.mono ?_); rintro e w2 ⟨u, rfl, hu, hb⟩))
  go_ret
  exact ⟨_, rfl, hu, hb⟩
set_option maxRecDepth 100000 in
set_option maxHeartbeats 4000000 in
theorem get_nil (n : Str) (w : World) : Calls Tryd.prog 30 #[.pointer none, strV n] w fun e w' => e = .returned (.tuple #[.slice none 0 0, .bool false]) ∧ w' = w := by
  go_enter Tryd.func30, Tryd.ntmps30
  go_wp2
  refine bodyPost_ret (results_tmp2 rfl _ _ _) rfl ?_
  exact ⟨rfl, rfl⟩
def GetTo (w : World) (l : List Str) (e : Ending) (w' : World) : Prop := ∃ u, e = .returned (.tuple #[u, .bool (decide (l ≠ []))]) ∧ HdIs w' (DgAt w' w.heap.size) u l ∧ Below w.heap.size w w'
set_option maxRecDepth 100000 in
set_option maxHeartbeats 4000000 in
theorem get_any (rb : Nat) (d br v : Value) (T : Tab) (n : Str) (ok : Nat → Prop) (w : World) (hB : Blk w rb 69 [d, v, br]) (h : TabIs w ok v T) (hf : TFit T) (hs : sorted T) :
    Calls Tryd.prog 30 #[.pointer (some ⟨rb, 0, none⟩), strV n] w (GetTo w (getT T n)) := by
  obtain ⟨u, hu, hst⟩ := stands_any T v n ok w h hf.len hs
  have hst := Lib.hid (hst w (Below.refl _ _))
  have hcl := Lib.hid (fun W (hb : Below w.heap.size w W) => clone_any (getT T n) u ok W (hu.stayB hb) (getT_fit hf n))
  obtain ⟨A, c, rfl, hc⟩ := h.form
  obtain ⟨UA, uc, rfl, huc, _⟩ := id hu
  have h1 := hB.cell 1
  obtain ⟨l, hl⟩ : ∃ l, l = getT T n := ⟨_, rfl⟩
  rw [← hl] at hst hcl ⊢
  unfold strV at hst ⊢
  clear hu h hl
  go_enter Tryd.func30, Tryd.ntmps30
  go_wp2_with (first
    | (go_at_call 64; (with_reducible refine hst.out.mono ?_); rintro e w2 ⟨rfl, hb2⟩)
    | (go_at_call 52; (with_reducible refine (hcl.out _ hb2).mono ?_); rintro e w3 ⟨x, rfl, hx, hb3⟩; obtain ⟨XA, xc, rfl, _, _⟩ := id hx))
  refine bodyPost_ret (results_tmp2 rfl _ _ _) rfl ?_
  refine ⟨_, ?_, hx.lower hb2.size, hb2.trans (hb3.mono hb2.size)⟩
  have : decide (0 < l.length) = decide (l ≠ []) := by cases l <;> simp
  rw [← this]
  rfl
end Go.Proofs.YtlenmkemjaaaoaaDoor
end

section
/- The walk of alive: a name that is there behind a crash. -/
namespace Go.Proofs.YtlenmkemjaaaoaaDoor
open Go.RowKit

def d7 : Str := 7 :: List.replicate 31 0
def mainN : Str := [109, 97, 105, 110]
def c0 : Chg := ⟨mainN, [], [d7]⟩
def T1 : Tab := [⟨mainN, [d7]⟩]
theorem a1 : applyE [] [c0] = 0 := by decide
theorem a2 : applyT [] [c0] = T1 := by unfold applyT; rw [if_pos a1]; rfl
theorem a3 : applyE T1 [c0] = 12 := by decide
theorem a4 : getT T1 mainN = [d7] := by decide
theorem c0_fit : CFit [c0] := ⟨by simp, fun c hc => by
  simp only [List.mem_singleton] at hc
  subst hc
  exact ⟨by decide, ⟨by decide, fun d hd => by cases hd⟩, ⟨by decide, fun d hd => by
    have : d = d7 := by simpa [c0] using hd
    subst this; rfl⟩⟩⟩
theorem h7_fit : HFit [d7] := ⟨by decide, fun d hd => by
    have : d = d7 := by simpa using hd
    subst this; rfl⟩
theorem build7 (w : World) : (Instr.build 57 #[(0, .int .u8 7)]).run Tryd.prog w = .ok (.agg (d7.map B).toArray) w := by kernel_rfl
theorem Ref.alloc {w0 : World} {base rb g : Nat} {v : Value} {S : DS} {T : Tab} {W : World} (h : Ref w0 base rb g v S T W) (o : Obj) : Ref w0 base rb g v S T (W.alloc o) := h.below ((Below.refl _ _).alloc (Nat.le_refl _) o)
theorem hd7 {W : World} {hb : Nat} (hH : Blk W hb 57 (d7.map B)) : HdIs W (fun _ => True) (.slice (some ⟨hb, 0, none⟩) 1 1) [d7] :=
  ⟨_, 1, rfl, Nat.le_refl _, Rd.of_blk (r := []) hH (by simp [hCells]) trivial⟩
theorem chs0 {W : World} {cb hb : Nat} (hC : Blk W cb 46 [.string ⟨#[109, 97, 105, 110]⟩, .slice none 0 0, .slice (some ⟨hb, 0, none⟩) 1 1]) (hH : Blk W hb 57 (d7.map B)) :
    ChsIs W (fun _ => True) (.slice (some ⟨cb, 0, none⟩) 1 1) [c0] := by
  refine ⟨_, 1, [(.slice none 0 0, .slice (some ⟨hb, 0, none⟩) 1 1)], rfl, rfl, Nat.le_refl _, Rd.of_blk (r := []) hC rfl trivial, fun k b u h1 h2 => ?_⟩
  match k, h1, h2 with
  | 0, h1, h2 =>
    simp only [List.getElem?_cons_zero, Option.some.injEq] at h1 h2
    subst h1; subst h2
    exact ⟨HdIs.nil, hd7 hH⟩
  | k + 1, h1, _ => simp at h1
theorem t1_may : mayE T1 = 0 ∧ tOk T1 := by
  have := apply_may a1 (fun b hb => by cases hb) (fun c hc => ⟨(c0_fit.ok c hc).old.ok, (c0_fit.ok c hc).new.ok⟩)
  rw [a2] at this
  exact this
theorem blk7 (w : World) : Blk (w.alloc (.cells #[.int .u8 7, .int .u8 0, .int .u8 0, .int .u8 0, .int .u8 0, .int .u8 0, .int .u8 0, .int .u8 0, .int .u8 0, .int .u8 0, .int .u8 0, .int .u8 0, .int .u8 0, .int .u8 0, .int .u8 0, .int .u8 0, .int .u8 0, .int .u8 0, .int .u8 0, .int .u8 0, .int .u8 0, .int .u8 0, .int .u8 0, .int .u8 0, .int .u8 0, .int .u8 0, .int .u8 0, .int .u8 0, .int .u8 0, .int .u8 0, .int .u8 0, .int .u8 0] 57)) w.heap.size 57 (d7.map B) := Blk.new_at (cs := d7.map B) rfl
theorem do1 {w0 : World} {base rb g cb hb : Nat} {v : Value} {W : World} (h : Ref w0 base rb g v (DS.new 1048576) [] W) (hC : Blk W cb 46 [.string ⟨#[109, 97, 105, 110]⟩, .slice none 0 0, .slice (some ⟨hb, 0, none⟩) 1 1]) (hH : Blk W hb 57 (d7.map B)) :
    Calls Tryd.prog 27 #[.pointer (some ⟨rb, 0, none⟩), .slice (some ⟨cb, 0, none⟩) 1 1] W fun e W' => e = .returned (.int .i64 0) ∧ Blk W' hb 57 (d7.map B) ∧ ∃ v' S' X', Ref w0 base rb g v' S' T1 W' ∧ Live S' X' ∧ TextOf X' T1 ∧ S'.room = 1048576 := by
  refine (do_live h (Live.new (by omega) (by omega)) (.inl ⟨rfl, rfl⟩) (by decide) (chs0 hC hH) c0_fit).mono ?_
  rintro e W' ⟨he, hk, hd⟩
  rw [a1] at he hd
  rw [if_pos rfl, a2] at hd
  exact ⟨he, hk _ _ _ hH (by decide) (by decide) (by decide), hd⟩
theorem do2 {w0 : World} {base rb g cb hb : Nat} {v : Value} {W : World} {S : DS} {X : Option Str} (h : Ref w0 base rb g v S T1 W) (hS : Live S X) (hX : TextOf X T1) (hr : S.room = 1048576) (hC : Blk W cb 46 [.string ⟨#[109, 97, 105, 110]⟩, .slice none 0 0, .slice (some ⟨hb, 0, none⟩) 1 1]) (hH : Blk W hb 57 (d7.map B)) :
    Calls Tryd.prog 27 #[.pointer (some ⟨rb, 0, none⟩), .slice (some ⟨cb, 0, none⟩) 1 1] W fun e W' => e = .returned (.int .i64 12) ∧ Ref w0 base rb g v S T1 W' := by
  refine (do_live h hS hX (by omega) (chs0 hC hH) c0_fit).mono ?_
  rintro e W' ⟨he, hk, hd⟩
  rw [a3] at he hd
  exact ⟨he, hd⟩
theorem get1 {w0 : World} {base rb g : Nat} {v : Value} {W : World} {S : DS} (h : Ref w0 base rb g v S T1 W) :
    Calls Tryd.prog 30 #[.pointer (some ⟨rb, 0, none⟩), .string ⟨#[109, 97, 105, 110]⟩] W fun e W' => ∃ A c, e = .returned (.tuple #[.slice A 1 c, .bool true]) ∧ HdIs W' (DgAt W' W.heap.size) (.slice A 1 c) [d7] ∧ Below W.heap.size W W' := by
  refine (get_any rb _ _ v T1 mainN _ W h.ref h.own.tab (tfit_of t1_may.1 t1_may.2) ((mayE_zero T1).1 t1_may.1).2.2).mono ?_
  rintro e W' ⟨u, he, hu, hb⟩
  rw [a4] at he hu
  obtain ⟨A, c, rfl, _, _⟩ := id hu
  exact ⟨A, c, he, hu, hb⟩
theorem crash1 {w0 : World} {base rb g hb : Nat} {v : Value} {S : DS} {T : Tab} {W : World} {X : Option Str} (h : Ref w0 base rb g v S T W) (hS : Live S X) (hH : Blk W hb 57 (d7.map B)) :
    Calls Tryd.prog 28 #[.pointer (some ⟨g, 0, none⟩), .slice none 0 0] W fun e W' => e = .returned (.tuple #[]) ∧ Ref w0 base rb g v S T W' ∧ Blk W' hb 57 (d7.map B) :=
  (crash_live h hS [] none 0 (fun _ _ _ _ => Rd.nil) (by simp) (by simp)).mono fun e W' ⟨h1, h2, h3⟩ => ⟨h1, h2, h3 _ _ _ hH (by decide) (by decide) (by decide)⟩
theorem open1 {w0 : World} {base g : Nat} {W : World} (h : Ses w0 base g (DS.new 1048576) W) :
    Calls Tryd.prog 26 #[.pointer (some ⟨g, 0, none⟩)] W fun e W' => ∃ rb v, e = .returned (.tuple #[.pointer (some ⟨rb, 0, none⟩), .int .i64 0]) ∧ Ref w0 base rb g v (DS.new 1048576) [] W' :=
  (open_live h (Live.new (by omega) (by omega)) (.inl ⟨rfl, rfl⟩)).mono fun e W' ⟨rb, v, h1, h2, _⟩ => ⟨rb, v, h1, h2⟩
theorem open2 {w0 : World} {base g hb rb0 : Nat} {W : World} {S : DS} {X : Option Str} {T : Tab} {v0 : Value} (h : Ref w0 base rb0 g v0 S T W) (hS : Live S X) (hX : TextOf X T) (hH : Blk W hb 57 (d7.map B)) :
    Calls Tryd.prog 26 #[.pointer (some ⟨g, 0, none⟩)] W fun e W' => ∃ rb v, e = .returned (.tuple #[.pointer (some ⟨rb, 0, none⟩), .int .i64 0]) ∧ Ref w0 base rb g v S T W' ∧ Blk W' hb 57 (d7.map B) :=
  (open_live h.toSes hS hX).mono fun e W' ⟨rb, v, h1, h2, h3⟩ => ⟨rb, v, h1, h2, h3 _ _ _ hH (by decide) (by decide) (by decide)⟩
theorem same1 {W : World} {A : Option Addr} {c hb : Nat} {ok : Nat → Prop} (h : HdIs W ok (.slice A 1 c) [d7]) (hH : Blk W hb 57 (d7.map B)) :
    Calls Tryd.prog 24 #[.slice A 1 c, .slice (some ⟨hb, 0, none⟩) 1 1] W fun e W' => e = .returned (.bool true) ∧ Below W.heap.size W W' :=
  (dsame_any [d7] [d7] _ _ _ _ W h (hd7 hH) h7_fit h7_fit).mono fun e W' ⟨h1, h2⟩ => ⟨by rw [h1, decide_eq_true rfl], h2⟩
set_option maxRecDepth 100000 in
set_option maxHeartbeats 8000000 in
theorem alive_any (w : World) : Calls Tryd.prog 16 #[] w fun e w' => e = .returned (.bool true) ∧ Below w.heap.size w w' := by
  have hfr := Lib.hid (fresh_any w)
  go_enter Tryd.func16, Tryd.ntmps16
  go_wp2_with (first
    | (go_at_call 25; (with_reducible refine hfr.out.mono ?_); rintro e w1 ⟨g, rfl, hs1⟩)
    | (go_at_call 26; (with_reducible refine (open2 hR4 hL3 hX3 hH4).mono ?_); rintro e w5 ⟨rb5, v5, rfl, hR5, hH5⟩)
    | (go_at_call 26; (with_reducible refine (open1 hs1).mono ?_); rintro e w2 ⟨rb, v, rfl, hR2⟩)
    | (go_at_call 27; (with_reducible refine (do2 (hR6.alloc _) hL3 hX3 hr3 (Blk.new_at (by simp)) (hH6.alloc _)).mono ?_); rintro e w7 ⟨rfl, hR7⟩)
    | (go_at_call 27; (with_reducible refine (do1 ((hR2.alloc _).alloc _) (Blk.new_at (by simp)) ((blk7 _).alloc _)).mono ?_); rintro e w3 ⟨rfl, hH3, v3, S3, X3, hR3, hL3, hX3, hr3⟩)
    | (go_at_call 28; (with_reducible refine (crash1 hR3 hL3 hH3).mono ?_); rintro e w4 ⟨rfl, hR4, hH4⟩)
    | (go_at_call 30; (with_reducible refine (get1 hR5).mono ?_); rintro e w5b ⟨GA, gc, rfl, hG5, hb5⟩; have hR5b := hR5.below hb5; have hH5b := hH5.below hb5 hH5.lt)
    | (go_at_call 24; (with_reducible refine (same1 hG5 hH5b).mono ?_); rintro e w6 ⟨rfl, hb6⟩; have hR6 := hR5b.below hb6; have hH6 := hH5b.below hb6 hH5b.lt))
  go_ret
  exact ⟨rfl, hR7.bel⟩
end Go.Proofs.YtlenmkemjaaaoaaDoor
end

section
/- Nobody's disk, and a disk that nobody made. -/
namespace Go.Proofs.YtlenmkemjaaaoaaDoor
open Go.RowKit
set_option maxRecDepth 100000 in
set_option maxHeartbeats 4000000 in
theorem remove_nil (w : World) : Calls Tryd.prog 57 #[.pointer none, .string ⟨#[114, 101, 102, 115, 46, 110, 101, 119]⟩] w fun e w' => e = .returned (.int .i64 2) ∧ Below w.heap.size w w' := by
  have hb := Below.refl w.heap.size w
  go_enter Tryd.func57, Tryd.ntmps57
  go_wp2
  go_ret
  exact ⟨rfl, hb.alloc (Nat.le_refl _) _⟩
set_option maxRecDepth 100000 in
set_option maxHeartbeats 4000000 in
theorem remove_zero (g : Nat) (x1 x2 x3 x4 x5 : Value) (w : World) (hB : Blk w g 75 [.map none, x1, x2, x3, x4, x5]) : Calls Tryd.prog 57 #[.pointer (some ⟨g, 0, none⟩), .string ⟨#[114, 101, 102, 115, 46, 110, 101, 119]⟩] w fun e w' => e = .returned (.int .i64 2) ∧ Below w.heap.size w w' := by
  have hb := Below.refl w.heap.size w
  have h0 := (hB.alloc (Obj.cells #[Value.string ⟨#[114, 101, 102, 115, 46, 110, 101, 119]⟩] 9)).cell 0
  have h1 := hB.cell 0
  have hq := fun w => run_neq_map_nil (P := Tryd.prog) w 72 _ _ none Tryd.underlying72
  go_enter Tryd.func57, Tryd.ntmps57
  go_wp2
  go_ret
  exact ⟨rfl, hb.alloc (Nat.le_refl _) _⟩
set_option maxRecDepth 100000 in
set_option maxHeartbeats 4000000 in
theorem open_bad (d : Value) (w : World) (hr : Calls Tryd.prog 57 #[d, .string ⟨#[114, 101, 102, 115, 46, 110, 101, 119]⟩] w fun e w' => e = .returned (.int .i64 2) ∧ Below w.heap.size w w') :
    Calls Tryd.prog 26 #[d] w fun e w' => e = .returned (.tuple #[.pointer none, .int .i64 2]) ∧ Below w.heap.size w w' := by
  replace hr := Lib.hid hr
  go_enter Tryd.func26, Tryd.ntmps26
  go_wp2_with (first
    | (go_at_call 57; (with_reducible refine hr.out.mono ?_); rintro e w2 ⟨rfl, hb2⟩))
  refine bodyPost_ret (results_tmp2 rfl _ _ _) rfl ?_
  exact ⟨rfl, hb2⟩
end Go.Proofs.YtlenmkemjaaaoaaDoor
end

section
/- The walk of the law RefsNobody. -/
namespace Go.Proofs.YtlenmkemjaaaoaaDoor
open Go.RowKit

set_option maxRecDepth 100000 in
set_option maxHeartbeats 8000000 in
theorem nobody_any (u : Value) (n : Str) (w : World) :
    Calls Tryd.prog 10 #[u, strV n] w fun e w' => e = .returned (.bool true) ∧ Below w.heap.size w w' := by
  have ha := Lib.hid alive_any
  have hgn := Lib.hid (get_nil n)
  have hgz := Lib.hid (fun (rb : Nat) (W : World) (hB : Blk W rb 69 [.pointer none, .slice none 0 0, .bool false]) => (get_any rb _ _ (.slice none 0 0) [] n (fun _ => True) W hB TabIs.nil ⟨by simp, by simp⟩ (by simp [sorted])))
  have han := Lib.hid all_nil
  have haz := Lib.hid (fun (rb : Nat) (W : World) (hB : Blk W rb 69 [.pointer none, .slice none 0 0, .bool false]) => (all_any rb _ _ (.slice none 0 0) [] (fun _ => True) W hB TabIs.nil ⟨by simp, by simp⟩))
  have hdn := Lib.hid (do_nil u)
  have hdz := Lib.hid (fun (rb : Nat) (W : World) (hB : Blk W rb 69 [.pointer none, .slice none 0 0, .bool false]) => do_none rb u _ _ W hB)
  have hon := Lib.hid (fun W => open_bad (.pointer none) W (remove_nil W))
  have hoz := Lib.hid (fun (g : Nat) (x1 x2 x3 x4 x5 : Value) (W : World) (hB : Blk W g 75 [.map none, x1, x2, x3, x4, x5]) => open_bad _ W (remove_zero g x1 x2 x3 x4 x5 W hB))
  rw [show getT [] n = [] from rfl] at hgz
  unfold strV at hgn hgz ⊢
  have hb0 := Below.refl w.heap.size w
  go_enter Tryd.func10, Tryd.ntmps10
  go_wp2
  have hR : Blk ((w.alloc (Obj.cells #[Value.pointer none, Value.slice none 0 0, Value.bool false] 69)).alloc (Obj.cells #[Value.pointer none, Value.pointer (some ⟨w.heap.size, 0, none⟩)] 52)) w.heap.size 69 [.pointer none, .slice none 0 0, .bool false] := Blk.alloc (Blk.new_at rfl) _
  have hS : Blk ((w.alloc (Obj.cells #[Value.pointer none, Value.slice none 0 0, Value.bool false] 69)).alloc (Obj.cells #[Value.pointer none, Value.pointer (some ⟨w.heap.size, 0, none⟩)] 52)) (w.heap.size + 1) 52 [.pointer none, .pointer (some ⟨w.heap.size, 0, none⟩)] := Blk.new_at (by simp)
  have hb1 := (hb0.alloc (Nat.le_refl _) (Obj.cells #[Value.pointer none, Value.slice none 0 0, Value.bool false] 69)).alloc (by simp) (Obj.cells #[Value.pointer none, Value.pointer (some ⟨w.heap.size, 0, none⟩)] 52)
  generalize ((w.alloc (Obj.cells #[Value.pointer none, Value.slice none 0 0, Value.bool false] 69)).alloc (Obj.cells #[Value.pointer none, Value.pointer (some ⟨w.heap.size, 0, none⟩)] 52)) = w1 at hR hS hb1 ⊢
  clear hb0
  go_loopw [17] (fun i wr => ∃ k : Nat, k ≤ 2 ∧ i = .int .i64 k ∧ Below w1.heap.size w1 wr) (fun i _ => 2 - (intOf i).toNat)
  case atStart => exact ⟨0, by omega, rfl, Below.refl _ _⟩
  case round =>
    obtain ⟨k, hk, rfl, hbw⟩ := hrel
    have hRw := hR.below hbw hR.lt
    have hSw := hS.below hbw hS.lt
    obtain rfl | rfl | rfl : k = 0 ∨ k = 1 ∨ k = 2 := by omega
    · have s0 := hSw.cell 0
      go_wp2_with (first
        | (go_at_call 30; (with_reducible refine (hgn.out _).mono ?_); rintro e w3 ⟨rfl, rfl⟩)
        | (go_at_call 30; (with_reducible refine (hgz.out _ _ hRw).mono ?_); rintro e w3 ⟨x, rfl, ⟨XA, xc, rfl, _, _⟩, hb3⟩; have hR3 := hRw.below hb3 hRw.lt)
        | (go_at_call 29; (with_reducible refine (han.out _).mono ?_); rintro e w4 ⟨rfl, rfl⟩)
        | (go_at_call 29; (with_reducible refine (haz.out _ _ hR3).mono ?_); rintro e w4 ⟨y, rfl, hy, hb4⟩; obtain ⟨YA, yc, rfl, _⟩ := hy.form; have hR4 := hR3.below hb4 hR3.lt)
        | (go_at_call 27; (with_reducible refine (hdn.out _).mono ?_); rintro e w5 ⟨rfl, rfl⟩)
        | (go_at_call 27; (with_reducible refine (hdz.out _ _ hR4).mono ?_); rintro e w5 ⟨rfl, rfl⟩))
      go_roundw
      case rel => exact ⟨1, by omega, rfl, hbw⟩
      case measure => simp [intOf]
    · have s1 := hSw.cell 1
      go_wp2_with (first
        | (go_at_call 30; (with_reducible refine (hgn.out _).mono ?_); rintro e w3 ⟨rfl, rfl⟩)
        | (go_at_call 30; (with_reducible refine (hgz.out _ _ hRw).mono ?_); rintro e w3 ⟨x, rfl, ⟨XA, xc, rfl, _, _⟩, hb3⟩; have hR3 := hRw.below hb3 hRw.lt)
        | (go_at_call 29; (with_reducible refine (han.out _).mono ?_); rintro e w4 ⟨rfl, rfl⟩)
        | (go_at_call 29; (with_reducible refine (haz.out _ _ hR3).mono ?_); rintro e w4 ⟨y, rfl, hy, hb4⟩; obtain ⟨YA, yc, rfl, _⟩ := hy.form; have hR4 := hR3.below hb4 hR3.lt)
        | (go_at_call 27; (with_reducible refine (hdn.out _).mono ?_); rintro e w5 ⟨rfl, rfl⟩)
        | (go_at_call 27; (with_reducible refine (hdz.out _ _ hR4).mono ?_); rintro e w5 ⟨rfl, rfl⟩))
      go_roundw
      case rel => exact ⟨2, by omega, rfl, hbw.trans ((hb3.trans (hb4.mono hb3.size)).mono hbw.size)⟩
      case measure => simp [intOf]
    · have hbz := hb1.trans (hbw.mono hb1.size)
      go_wp2_with (first
        | (go_at_call 26; (with_reducible refine (hon.out _).mono ?_); rintro e w3 ⟨rfl, hb3⟩; have hbz3 := hbz.trans (hb3.mono hbz.size))
        | (go_at_call 26; (with_reducible refine (hoz.out _ _ _ _ _ _ _ (Blk.new_at (by simp))).mono ?_); rintro e w4 ⟨rfl, hb4⟩; have hbz4 := (hbz3.alloc hbz3.size _).trans (hb4.mono (by have := hbz3.size; simp; omega)))
        | (go_at_call 16; (with_reducible refine (ha.out _).mono ?_); rintro e w5 ⟨rfl, hb5⟩; have hbz5 := hbz4.trans (hb5.mono hbz4.size)))
      go_ret
      exact ⟨rfl, hbz5⟩
end Go.Proofs.YtlenmkemjaaaoaaDoor
end
