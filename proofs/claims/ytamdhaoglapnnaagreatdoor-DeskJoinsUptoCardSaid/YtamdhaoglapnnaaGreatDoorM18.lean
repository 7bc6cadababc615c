/- The edits from nothing to a text. -/
import Derived.Test.YtamdhaoglapnnaaGreatDoorM17
import Derived.Deep.OwnRows
namespace Go.Proofs.YtamdhaoglapnnaaGreatDoor
open Go.RowKit

set_option maxRecDepth 100000 in
set_option maxHeartbeats 1000000 in
theorem costs_nil (t : Str) (ht : t.length ≤ 1000) (w : World) : Calls Tryz.prog 189 #[.string ⟨#[]⟩, strV t] w fun e w' => ∃ A, e = .returned (.slice A 1 1) ∧ Below w.heap.size w w' := by
  have hsl : (⟨t.toArray⟩ : ByteArray).size = t.length := strLn0 t
  have mk1 : ∀ W : World, (Instr.makeSlice 266 (.int .i64 ((t.length : Int) + 1)) (.int .i64 ((t.length : Int) + 1))).run Tryz.prog W = .ok (.slice (some ⟨W.heap.size, 0, none⟩) (t.length + 1) (t.length + 1)) (W.alloc (.cells (madeCells #[.int .i16 0] (t.length + 1)) 265)) := fun W => by
    have h := run_make_row' 266 265 (.int .i16 0) 2 Tryz.underlying266 (by kernel_rfl) rfl .i64 .i64 (t.length + 1) (by omega) (by omega) W
    simpa using h
  have mk2 : ∀ W : World, (Instr.makeSlice 262 (.int .i64 1) (.int .i64 1)).run Tryz.prog W = .ok (.slice (some ⟨W.heap.size, 0, none⟩) 1 1) (W.alloc (.cells #[nilS] 266)) := fun W => by
    have h := run_make_row' 262 266 nilS 24 Tryz.underlying262 (by kernel_rfl) rfl .i64 .i64 1 (by omega) (by omega) W
    have e : madeCells #[nilS] 1 = #[nilS] := by kernel_rfl
    rw [e] at h
    exact h
  have a1 : IntKind.i64.wrap ((t.length : Int) + 1) = (t.length : Int) + 1 := IntWalk.i64_in _ (by omega)
  unfold strV
  go_enter Tryz.func189, Tryz.ntmps189
  go_wp2_with fail
  refine wp_loop_rounds 2 ?_
  rw [rounds_succ]
  go_wp2_with fail
  rw [rounds_succ]
  go_wp2_with fail
  generalize hW1 : World.alloc (World.alloc w _) (Obj.cells _ 266) = W1
  have hb1 : Below w.heap.size w W1 := by rw [← hW1]; go_grown
  have hB1 : Blk W1 (w.heap.size + 1) 266 [.slice (some ⟨w.heap.size, 0, none⟩) (t.length + 1) (t.length + 1)] := by rw [← hW1]; exact Blk.new_at (cs := [.slice (some ⟨w.heap.size, 0, none⟩) (t.length + 1) (t.length + 1)]) (by simp)
  have hB2 : ∃ cs : List Value, cs.length = t.length + 1 ∧ Blk W1 w.heap.size 265 cs := by
    rw [← hW1]
    exact ⟨_, by simp [size_madeCells], (Blk.new_at (cs := (madeCells #[.int .i16 0] (t.length + 1)).toList) rfl).alloc _⟩
  clear hW1 mk1 mk2
  refine wp_loop_rounds 2 ?_
  rw [rounds_succ]
  go_wp2_with fail
  go_loopw [10] (fun j wr => ∃ m : Nat, m ≤ t.length + 1 ∧ j = .int .i64 ((m : Int) - 1) ∧ Below w.heap.size w wr ∧ Blk wr (w.heap.size + 1) 266 [.slice (some ⟨w.heap.size, 0, none⟩) (t.length + 1) (t.length + 1)] ∧ ∃ cs : List Value, cs.length = t.length + 1 ∧ Blk wr w.heap.size 265 cs) (fun j _ => (intOf j + 1).toNat)
  case atStart => exact ⟨t.length + 1, Nat.le_refl _, by simp, hb1, hB1, hB2⟩
  case round =>
    obtain ⟨m, hm, rfl, hbr, hBr, cs, hcl, hCr⟩ := hrel
    by_cases h0 : m = 0
    · subst h0
      go_wp2_with fail
      rw [rounds_succ]
      go_wp2_with fail
      go_returns
      exact ⟨_, rfl, hbr⟩
    · obtain ⟨k, rfl⟩ : ∃ k, m = k + 1 := ⟨m - 1, by omega⟩
      have e1 : ((k + 1 : Nat) : Int) - 1 = (k : Int) := by omega
      rw [e1]
      have i1 : (0 : Int) ≤ (k : Int) := by omega
      have i2 : (k : Int) < (t.length : Int) + 1 := by omega
      have i3 : (k : Int) < ((t.length + 1 : Nat) : Int) := by omega
      have cR : wr.cell? ⟨w.heap.size + 1, 0, none⟩ = some (.slice (some ⟨w.heap.size, 0, none⟩) (t.length + 1) (t.length + 1)) := hBr.cell 0
      have cC : wr.cell? ⟨w.heap.size, k, none⟩ = some cs[k] := by rw [hCr.cell]; exact List.getElem?_eq_getElem (by omega)
      have fC := hCr.frozen k
      go_wp2_with fail
      refine ⟨⟨k, by omega, rfl, hbr.setCell (Nat.le_refl _) _, hBr.far (by show w.heap.size + 1 ≠ w.heap.size; omega) _, _, ?_, hCr.set_ k _⟩, ?_⟩
      · simp [hcl]
      · simp [intOf]
def editCells (k n : Int) (s : Str) : List Value := [.int .i64 k, .int .i64 n, strV s]
theorem own_one {w : World} {base : Nat} {e : TypeId} {k : Nat} {v : Value} {xs : List Value} (h : w.ownsRow base e k v 1 xs) : ∃ eb cap rest, v = .slice (some ⟨eb, 0, none⟩) 1 cap ∧ base ≤ eb ∧ Blk w eb e (xs ++ rest) := by
  rcases h with ⟨h1, ⟨_, h3⟩ | ⟨g, cap, cur, h2, h3, h4, h5, h6, h7, h8⟩⟩
  · cases h3
  · refine ⟨g, cap, cur.toList.drop (1 * k), h2, h3, ?_⟩
    rw [← h8, List.take_append_drop]
    exact h4
theorem infoEd : InfoOf Tryz.prog 127 (.agg #[.int .i64 0, .int .i64 0, .string ⟨#[]⟩]) 3 32 := ⟨by kernel_rfl, rfl, by omega⟩
/-- One put: it begins the list, or goes on. -/
structure PutSt (W0 W : World) (lb : Nat) (s : Str) : Prop where
  below : Below lb W0 W
  low : lb < W.heap.size
  row : ∃ V, Blk W lb 123 [V] ∧ if s = [] then V = nilS else ∃ eb cap rest, V = .slice (some ⟨eb, 0, none⟩) 1 cap ∧ lb < eb ∧ Blk W eb 127 (editCells 3 0 s ++ rest)
theorem PutSt.drewN {W0 W : World} {lb : Nat} {s : Str} (h : PutSt W0 W lb s) (n : Nat) : PutSt W0 (W.drewN n) lb s := by
  have hT := Touch.drewN (w := W) (L := []) n
  obtain ⟨V, hV, he⟩ := h.row
  have hl := h.low
  refine ⟨h.below.trans (hT.below (by omega) (fun _ hi => by cases hi)), Nat.lt_of_lt_of_le hl hT.size, V, hV.drewN n, ?_⟩
  by_cases hs : s = []
  · rw [if_pos hs] at he ⊢
    exact he
  · rw [if_neg hs] at he ⊢
    obtain ⟨eb, cap, rest, h1, h2, h3⟩ := he
    exact ⟨eb, cap, rest, h1, h2, h3.drewN n⟩
set_option maxRecDepth 100000 in
set_option maxHeartbeats 1000000 in
theorem add_first (W0 W : World) (lb : Nat) (x : Str) (h : PutSt W0 W lb []) (hx : x ≠ []) (hl : x.length ≤ 1000000) :
    Calls Tryz.prog 190 #[.int .i64 3, strV x, .pointer (some ⟨lb, 0, none⟩)] W fun e W' => e = .returned (.tuple #[]) ∧ PutSt W0 W' lb x := by
  obtain ⟨V, hV, he⟩ := h.row
  rw [if_pos rfl] at he
  subst he
  have cV : W.cell? ⟨lb, 0, none⟩ = some nilS := hV.cell 0
  have hlow := h.low
  replace h := Lib.hid h
  replace hV := Lib.hid hV
  have hnil : Hid (∀ o, (W.alloc o).ownsRow (lb + 1) 127 3 nilS 0 []) := Lib.hid (fun o => ⟨rfl, .inl ⟨rfl, rfl⟩⟩)
  replace hx := Lib.hid hx
  unfold strV
  go_enter Tryz.func190, Tryz.ntmps190
  go_wp2_with (at_builtin; refine wpList_append_rd _ rfl (.tmp 19) (.tmp 22) 123 rfl (lb + 1) 127 _ 3 32 Tryz.underlying123 infoEd nilS 0 [] rfl (hnil.out _) (fun _ => True) (some ⟨W.heap.size, 0, none⟩) 1 1 [.int .i64 3, .int .i64 0, .string ⟨#[]⟩] rfl rfl (Rd.of_blk (cs := [.int .i64 3, .int .i64 0, .string ⟨#[]⟩]) (r := []) (Blk.new_at rfl) rfl trivial) (by simp [Value.oneCell']) (by unfold maxLen; omega) (by omega) (by simp; omega) ?_; intro v4 W4 hrow4 hg4 hv4; obtain ⟨eb, cap, rest, rfl, hebl, hE⟩ := own_one hrow4; have hB4 : Blk W4 lb 123 [nilS] := (hV.out.alloc _).grown hg4 (by simp [Value.ownBlock]); have cL := hB4.cell 0; have fL := hB4.frozen 0; simp only [List.getElem?_cons_zero] at cL; have kL : ∀ u, (W4.setCell ⟨lb, 0, none⟩ u).cell? ⟨eb, 2, none⟩ = some (.string ⟨#[]⟩) := fun u => (hE.far (by show eb ≠ lb; omega) u).cell 2; have zL : ∀ u, (W4.setCell ⟨lb, 0, none⟩ u).frozen? ⟨eb, 2, none⟩ = false := fun u => (hE.far (by show eb ≠ lb; omega) u).frozen 2; have jL : ∀ u, (W4.setCell ⟨lb, 0, none⟩ u).cell? ⟨lb, 0, none⟩ = some u := fun u => (hB4.set_ 0 u).cell 0; replace hB4 := Lib.hid hB4; replace hE := Lib.hid hE; replace hg4 := Lib.hid hg4; clear hrow4 hv4; go_frame)
  · refine bodyPost_end (v := .tuple #[]) (results_none (by rfl) _ _ _) rfl ⟨rfl, ?_⟩
    have e : ((⟨#[]⟩ : ByteArray) ++ ⟨x.toArray⟩) = ⟨x.toArray⟩ := str_app [] x
    rw [e]
    have hsz4 := hg4.out.size
    simp at hsz4
    refine ⟨?_, by simp; omega, _, (hB4.out.set_ 0 _).far (by show lb ≠ eb; omega) _, ?_⟩
    · exact ((((h.out.below.trans ((Below.refl _ _).alloc (by omega) _)).grown hg4.out (by simp; omega) (fun k hk => by cases hk)).setCell (Nat.le_refl _) _).setCell (by show lb ≤ eb; omega) _)
    · rw [if_neg hx.out]
      exact ⟨eb, cap, rest, rfl, by omega, (hE.out.far (by show eb ≠ lb; omega) _).set_ 2 _⟩
set_option maxRecDepth 100000 in
set_option maxHeartbeats 1000000 in
theorem add_next (W0 W : World) (lb : Nat) (s x : Str) (h : PutSt W0 W lb s) (hs : s ≠ []) (hl : x.length ≤ 1000000) (hsl : s.length ≤ 1000000) :
    Calls Tryz.prog 190 #[.int .i64 3, strV x, .pointer (some ⟨lb, 0, none⟩)] W fun e W' => e = .returned (.tuple #[]) ∧ PutSt W0 W' lb (s ++ x) := by
  obtain ⟨V, hV, he⟩ := h.row
  rw [if_neg hs] at he
  obtain ⟨eb, cap, rest, rfl, hlt, hE⟩ := he
  have cV : W.cell? ⟨lb, 0, none⟩ = some (.slice (some ⟨eb, 0, none⟩) 1 cap) := hV.cell 0
  have c0 : W.cell? ⟨eb, 0, none⟩ = some (.int .i64 3) := hE.cell 0
  have c2 : W.cell? ⟨eb, 2, none⟩ = some (.string ⟨s.toArray⟩) := hE.cell 2
  have f2 := hE.frozen 2
  have q1 : (⟨s.toArray⟩ : ByteArray).size = s.length := strLn0 s
  have q2 : (⟨x.toArray⟩ : ByteArray).size = x.length := strLn0 x
  replace h := Lib.hid h
  replace hV := Lib.hid hV
  replace hE := Lib.hid hE
  unfold strV
  go_enter Tryz.func190, Tryz.ntmps190
  go_wp2_with fail
  · refine bodyPost_end (v := .tuple #[]) (results_none (by rfl) _ _ _) rfl ⟨rfl, ?_⟩
    rw [str_app]
    refine ⟨h.out.below.setCell (by show lb ≤ eb; omega) _, by have := h.out.low; simpa using this, _, hV.out.far (by show lb ≠ eb; omega) _, ?_⟩
    rw [if_neg (by simp [hs])]
    exact ⟨eb, cap, rest, rfl, hlt, hE.out.set_ 2 _⟩
set_option maxRecDepth 100000 in
set_option maxHeartbeats 1000000 in
theorem dmake_nil (t : Str) (ht : t.length ≤ 1000) (h0 : t ≠ []) (w : World) : Calls Tryz.prog 125 #[.string ⟨#[]⟩, strV t] w fun e w' => ∃ eb cap rest, e = .returned (.tuple #[.slice (some ⟨eb, 0, none⟩) 1 cap, .int .i64 0]) ∧ w.heap.size ≤ eb ∧ Blk w' eb 127 (editCells 3 0 t ++ rest) ∧ Below w.heap.size w w' := by
  have hsl : (⟨t.toArray⟩ : ByteArray).size = t.length := strLn0 t
  have hc := Lib.hid (costs_nil t ht w)
  have q1 : decide ((1000 : Int) < (t.length : Int)) = false := decide_eq_false (by omega)
  unfold strV at hc ⊢
  replace h0 := Lib.hid h0
  go_enter Tryz.func125, Tryz.ntmps125
  go_wp2_with fail
  refine hc.out.mono ?_
  rintro e W ⟨CA, rfl, hb⟩
  replace hb := Lib.hid hb
  go_wp2_with fail
  generalize hW1 : World.alloc W (Obj.cells _ 123) = W1
  have hp : PutSt W W1 W.heap.size [] := by
    rw [← hW1]
    exact ⟨(Below.refl _ _).alloc (Nat.le_refl _) _, by simp, nilS, Blk.new_at (cs := [nilS]) rfl, by simp⟩
  clear hW1
  replace hp := Lib.hid hp
  go_loopw [9, 10] (fun i j wr => ∃ m : Nat, m ≤ t.length ∧ i = .int .i64 0 ∧ j = .int .i64 m ∧ PutSt W wr W.heap.size (t.take m)) (fun _ j _ => t.length - (intOf j).toNat)
  case atStart => exact ⟨0, Nat.zero_le _, rfl, rfl, hp.out⟩
  case round =>
    obtain ⟨m, hm, rfl, rfl, hps⟩ := hrel
    by_cases hlt : m < t.length
    · have i1 : (0 : Int) ≤ (m : Int) := by omega
      have i2 : (m : Int) < (t.length : Int) := by omega
      have hex : (⟨t.toArray⟩ : ByteArray).extract m (m + 1) = ⟨[t[m]].toArray⟩ := by
        apply ByteArray.ext
        simp [ByteArray.data_extract]
        rw [List.drop_eq_getElem_cons hlt]
        rfl
      have hadd : Hid (∀ k, Calls Tryz.prog 190 #[.int .i64 3, .string ⟨[t[m]].toArray⟩, .pointer (some ⟨W.heap.size, 0, none⟩)] (wr.drewN k) fun e W' => e = .returned (.tuple #[]) ∧ PutSt W W' W.heap.size (t.take (m + 1))) := Lib.hid (fun k => by
        rw [take_at1 hlt]
        by_cases hm0 : t.take m = []
        · have h1 := hps.drewN k
          rw [hm0] at h1 ⊢
          exact add_first W _ _ [t[m]] h1 (by simp) (by simp)
        · exact add_next W _ _ (t.take m) [t[m]] (hps.drewN k) hm0 (by simp) (by simp; omega))
      replace hps := Lib.hid hps
      go_wp2_with fail
      go_quiet (fail)
      go_wp2_with fail
      go_quiet (fail)
      go_wp2_with fail
      refine (hadd.out _).mono ?_
      rintro e w3 ⟨rfl, hp3⟩
      replace hp3 := Lib.hid hp3
      go_wp2_with fail
      refine ⟨⟨m + 1, by omega, rfl, ?_, hp3.out⟩, ?_⟩
      · go_num
      · simp [intOf]
        omega
    · have hmt : m = t.length := by omega
      subst hmt
      rw [List.take_length] at hps
      obtain ⟨V, hV, he⟩ := hps.row
      rw [if_neg h0.out] at he
      obtain ⟨eb, cap, rest, rfl, hlt, hE⟩ := he
      have cV : wr.cell? ⟨W.heap.size, 0, none⟩ = some (.slice (some ⟨eb, 0, none⟩) 1 cap) := hV.cell 0
      replace hps := Lib.hid hps
      replace hE := Lib.hid hE
      clear hV
      go_wp2_with fail
      go_returns
      have := hb.out.size
      exact ⟨eb, cap, rest, rfl, by omega, hE.out, hb.out.trans (hps.out.below.mono this)⟩
end Go.Proofs.YtamdhaoglapnnaaGreatDoor
