/- The walks of Sync, Read, Names, Size, New, Fuse. -/
import Derived.Test.YtlenmkemjaaaoaaDoorDkD
namespace Go.Proofs.YtlenmkemjaaaoaaDoor
open Go.RowKit Go.Maps Go.Sort

/-- A disk whose struct and one map are new. -/
theorem nilRow (w : World) : w.ownsRow 0 120 1 (.slice none 0 0) 0 [] := ⟨rfl, .inl ⟨rfl, rfl⟩⟩
set_option maxRecDepth 100000 in
set_option maxHeartbeats 1000000 in
theorem sync_any (g bn bs : Nat) (v : Value) (S : DS) (w : World) (h : DiskAt w g bn bs v S) (hF : S.Fit) :
    Calls Tryd.prog 60 #[.pointer (some ⟨g, 0, none⟩)] w fun e w' => e = .returned (.int .i64 (Call.sync.errno S)) ∧ Turned w (foot g bn bs v) g (Call.sync.turn S) w' := by
  have hpw := Lib.hid (power_write g bn bs v S w h hF.fuse0 hF.fuse1)
  clear h hF
  go_enter Tryd.func60, Tryd.ntmps60
  go_wp2_with fail
  refine hpw.out.mono ?_
  rintro e w1 ⟨rfl, hd1, ht1, hz1⟩
  have htt : Touch (foot g bn bs v) w w1 := ht1.mono (fun i hi => .inl (by have : i = g := (by simpa using hi); rw [this]; simp [foot]))
  clear ht1 hz1
  cases ho : S.tick.off with
  | true =>
    have hp : Hid (S.powE = 15) := Lib.hid (by simp [DS.powE, ho])
    have he : Hid (Call.sync.errno S = 15) := Lib.hid (by simp [Call.errno, ho])
    have hu : Hid (Call.sync.turn S = S.tick) := Lib.hid (by simp [Call.turn, ho])
    rw [hp.out]
    replace hd1 := Lib.hid hd1
    replace htt := Lib.hid htt
    clear ho
    go_wp2
    go_ret
    rw [hu.out]
    exact ⟨ret_int he.out.symm, Turned.then htt.out (fun i hi => .inl hi) (Turned.same ⟨bn, bs, v, hd1.out, rfl⟩ (Below.refl _ _))⟩
  | false =>
    have hp : Hid (S.powE = 0) := Lib.hid (by simp [DS.powE, ho])
    have he : Hid (Call.sync.errno S = 0) := Lib.hid (by simp [Call.errno, ho, Call.err])
    have hu : Hid (Call.sync.turn S = { S.tick with sure := S.tick.now, pend := [] }) := Lib.hid (by simp [Call.turn, ho, Call.err, Call.done])
    rw [hp.out]
    have c0 : w1.cell? ⟨g, 0, none⟩ = some (.map (some bn)) := by rw [hd1.blk.cell]; rfl
    have hcl := Lib.hid (mclone_any w1 bn _ hd1.now)
    replace hd1 := Lib.hid hd1
    replace htt := Lib.hid htt
    clear ho
    go_wp2_with fail
    refine hcl.out.mono ?_
    rintro e w2 ⟨rfl, hm2, hb2⟩
    have hd2 := hd1.out.below hb2
    have z1 := hd2.blk.frozen 1
    have z2 := hd2.blk.frozen 2
    have c1 : w2.cell? ⟨g, 1, none⟩ = some (.map (some bs)) := by rw [hd2.blk.cell]; rfl
    have c2 : w2.cell? ⟨g, 2, none⟩ = some v := by rw [hd2.blk.cell]; rfl
    have hlt : bn ≠ w1.heap.size := by have := hd1.out.now.lt; omega
    have hg1 : g < w1.heap.size := hd1.out.blk.lt
    obtain ⟨gg, hgg⟩ : ∃ gg, gg = w1.heap.size := ⟨_, rfl⟩
    rw [← hgg] at hlt hg1 hm2 ⊢
    replace hd2 := Lib.hid hd2
    replace hm2 := Lib.hid hm2
    replace hb2 := Lib.hid hb2
    replace hlt := Lib.hid hlt
    replace hgg := Lib.hid hgg
    clear c0
    go_wp2
    go_ret
    rw [hu.out]
    refine ⟨ret_int he.out.symm, ?_⟩
    have ht2 : Touch [g] w2 ((w2.setCell ⟨g, 1, none⟩ (.map (some gg))).setCell ⟨g, 2, none⟩ (.slice none 0 0)) := (Touch.setCell _ (by simp)).trans (Touch.setCell _ (by simp)) (fun i hi => .inl hi)
    refine ⟨htt.out.trans ((Touch.ofBelow (L := foot g bn bs v) hb2.out).trans ht2 (fun i hi => .inl (by have : i = g := (by simpa using hi); rw [this]; simp [foot]))) (fun i hi => .inl hi), foot g bn gg (.slice none 0 0), ⟨bn, gg, .slice none 0 0, ⟨(hd2.out.blk.set_ 1 _).set_ 2 _, hd2.out.now.touch ht2 (by simpa using hd2.out.gne bn (by simp)), hm2.out.touch ht2 (by simp; omega), hlt.out, [], nilRow _, rfl, fun i o v h1 _ => by simp at h1⟩, rfl⟩, ?_⟩
    intro i hi
    rcases DiskAt.mem_foot hi with rfl | rfl | rfl | e
    · simp [foot]
    · simp [foot]
    · right; rw [hgg.out]; exact htt.out.size
    · cases e
theorem ret_two {a b : Value} {c d : Value} (h1 : a = c) (h2 : b = d) : Ending.returned (.tuple #[a, b]) = .returned (.tuple #[c, d]) := by rw [h1, h2]
set_option maxRecDepth 100000 in
set_option maxHeartbeats 1000000 in
theorem read_any (g bn bs : Nat) (v : Value) (S : DS) (s : List UInt8) (w : World) (h : DiskAt w g bn bs v S) (hs : s.length ≤ 140737488355328) :
    Calls Tryd.prog 58 #[.pointer (some ⟨g, 0, none⟩), strV s] w fun e w' => e = .returned (.tuple #[strV (S.readT s), .int .i64 (S.readE s)]) ∧ w = w' := by
  have hpw := Lib.hid (power_read g bn bs v S w h)
  have hnm := Lib.hid (name_any s w hs)
  have c0 : w.cell? ⟨g, 0, none⟩ = some (.map (some bn)) := by rw [h.blk.cell]; rfl
  cases ho : S.off with
  | true =>
    have hp : Hid (S.powR = 15) := Lib.hid (by simp [DS.powR, ho])
    have he : Hid (S.readE s = 15) := Lib.hid (by simp [DS.readE, ho])
    have hu : Hid (S.readT s = []) := Lib.hid (by simp [DS.readT, ho])
    clear h ho
    go_enter Tryd.func58, Tryd.ntmps58
    go_wp2_with fail
    refine hpw.out.mono ?_
    rintro e w1 ⟨rfl, rfl⟩
    rw [hp.out]
    go_wp2
    go_ret2
    exact ⟨ret_two (by rw [hu.out]; rfl) (by rw [he.out]; rfl), rfl⟩
  | false =>
    have hp : Hid (S.powR = 0) := Lib.hid (by simp [DS.powR, ho])
    cases hn : nameB s with
    | false =>
      have he : Hid (S.readE s = 11) := Lib.hid (by simp [DS.readE, ho, hn])
      have hu : Hid (S.readT s = []) := Lib.hid (by simp [DS.readT, ho, hn])
      rw [hn] at hnm
      clear h ho hn
      go_enter Tryd.func58, Tryd.ntmps58
      go_wp2_with fail
      refine hpw.out.mono ?_
      rintro e w1 ⟨rfl, rfl⟩
      rw [hp.out]
      go_wp2_with fail
      refine hnm.out.mono ?_
      rintro e w1 ⟨rfl, rfl⟩
      go_wp2
      go_ret2
      exact ⟨ret_two (by rw [hu.out]; rfl) (by rw [he.out]; rfl), rfl⟩
    | true =>
      have hs80 : s.length ≤ 80 := by simp [nameB] at hn; exact hn.2
      have hlook := h.now.look (max_80 hs80)
      rw [hn] at hnm
      cases hh : fHas S.now s with
      | false =>
        have he : Hid (S.readE s = 5) := Lib.hid (by simp [DS.readE, ho, hn, hh])
        have hu : Hid (S.readT s = []) := Lib.hid (by simp [DS.readT, ho, hn, fS_none hh])
        rw [hh] at hlook
        clear h ho hn hh
        go_enter Tryd.func58, Tryd.ntmps58
        go_wp2_with fail
        refine hpw.out.mono ?_
        rintro e w1 ⟨rfl, rfl⟩
        rw [hp.out]
        go_wp2_with fail
        refine hnm.out.mono ?_
        rintro e w1 ⟨rfl, rfl⟩
        go_wp2
        go_ret2
        exact ⟨ret_two (by rw [hu.out]; rfl) (by rw [he.out]; rfl), rfl⟩
      | true =>
        have he : Hid (S.readE s = 0) := Lib.hid (by simp [DS.readE, ho, hn, hh])
        have hu : Hid (S.readT s = fS S.now s) := Lib.hid (by simp [DS.readT, ho, hn])
        rw [hh] at hlook
        clear h ho hn hh
        go_enter Tryd.func58, Tryd.ntmps58
        go_wp2_with fail
        refine hpw.out.mono ?_
        rintro e w1 ⟨rfl, rfl⟩
        rw [hp.out]
        go_wp2_with fail
        refine hnm.out.mono ?_
        rintro e w1 ⟨rfl, rfl⟩
        go_wp2
        go_ret2
        exact ⟨ret_two (by rw [hu.out]; rfl) (by rw [he.out]; rfl), rfl⟩
set_option maxRecDepth 100000 in
set_option maxHeartbeats 1000000 in
theorem dsize_off (g bn bs : Nat) (v : Value) (S : DS) (w : World) (h : DiskAt w g bn bs v S) (ho : S.off = true) :
    Calls Tryd.prog 33 #[.pointer (some ⟨g, 0, none⟩)] w fun e w' => e = .returned (.int .i64 0) ∧ w = w' := by
  have hpw := Lib.hid (power_read g bn bs v S w h)
  have hp : Hid (S.powR = 15) := Lib.hid (by simp [DS.powR, ho])
  clear h ho
  go_enter Tryd.func33, Tryd.ntmps33
  go_wp2_with fail
  refine hpw.out.mono ?_
  rintro e w1 ⟨rfl, rfl⟩
  rw [hp.out]
  go_wp2
  go_ret
  exact ⟨rfl, rfl⟩
set_option maxRecDepth 100000 in
set_option maxHeartbeats 1000000 in
theorem dsize_any (g bn bs : Nat) (v : Value) (S : DS) (w : World) (h : DiskAt w g bn bs v S) (ho : S.off = false) (hs : fSum S.now ≤ 1099511627776) :
    Calls Tryd.prog 33 #[.pointer (some ⟨g, 0, none⟩)] w fun e w' => e = .returned (.int .i64 (fSum S.now)) ∧ Below w.heap.size w w' := by
  have hpw := Lib.hid (power_read g bn bs v S w h)
  have hp : Hid (S.powR = 0) := Lib.hid (by simp [DS.powR, ho])
  have c0 : w.cell? ⟨g, 0, none⟩ = some (.map (some bn)) := by rw [h.blk.cell]; rfl
  have hk := Lib.hid (size_any w bn S.now h.now hs)
  clear h ho hs
  go_enter Tryd.func33, Tryd.ntmps33
  go_wp2_with fail
  refine hpw.out.mono ?_
  rintro e w1 ⟨rfl, rfl⟩
  rw [hp.out]
  go_wp2_with fail
  refine hk.out.mono ?_
  rintro e w1 ⟨rfl, hb⟩
  replace hb := Lib.hid hb
  go_wp2
  go_ret
  exact ⟨rfl, hb.out⟩
set_option maxRecDepth 100000 in
set_option maxHeartbeats 1000000 in
theorem fuse_any (g bn bs : Nat) (v : Value) (S : DS) (n : Int) (w : World) (h : DiskAt w g bn bs v S) :
    Calls Tryd.prog 31 #[.pointer (some ⟨g, 0, none⟩), .int .i64 n] w fun e w' => e = .returned (.tuple #[]) ∧ DiskAt w' g bn bs v { S with fuse := max n (-1) } ∧ Touch [g] w w' := by
  have hm := Lib.hid (made_any g bn bs v S w h)
  have z4 := h.blk.frozen 4
  have c4 : w.cell? ⟨g, 4, none⟩ = some (.int .i64 S.fuse) := by rw [h.blk.cell]; rfl
  have hD := Lib.hid h
  clear h
  go_enter Tryd.func31, Tryd.ntmps31
  go_wp2_with fail
  refine hm.out.mono ?_
  rintro e w1 ⟨rfl, rfl⟩
  go_wp2
  all_goals
    refine bodyPost_end (v := .tuple #[]) (results_none (by rfl) _ _ _) rfl ⟨rfl, ?_, Touch.setCell _ (by simp)⟩
    first
      | (rw [show max n (-1) = n by omega]; exact hD.out.turn (Touch.setCell _ (by simp)) (hD.out.blk.set_ 4 _) rfl rfl rfl)
      | (rw [show max n (-1) = -1 by omega]; exact hD.out.turn (Touch.setCell _ (by simp)) (hD.out.blk.set_ 4 _) rfl rfl rfl)
      | exact hD.out.turn (Touch.setCell _ (by simp)) (hD.out.blk.set_ 4 _) rfl rfl rfl
/-- New, where the room is one. -/
def NewTo (w : World) (room : Int) (e : Ending) (w' : World) : Prop := ∃ g L, e = .returned (.tuple #[.pointer (some ⟨g, 0, none⟩), .int .i64 0]) ∧ DiskIs w' L g (DS.new room) ∧ (∀ i ∈ L, w.heap.size ≤ i) ∧ Below w.heap.size w w'
set_option maxRecDepth 100000 in
set_option maxHeartbeats 1000000 in
theorem new_any (room : Int) (w : World) (h0 : 0 ≤ room) (h1 : room ≤ 16777216) : Calls Tryd.prog 32 #[.int .i64 room] w (NewTo w room) := by
  have hmm := @run_makeMap Tryd.prog
  go_enter Tryd.func32, Tryd.ntmps32
  go_wp2
  go_ret2
  have m1 : MapIs (w.alloc (Obj.map #[] 0)) w.heap.size fNil := MapIs.of (World.ownsMap_made w _ _ _)
  have m2 : MapIs ((w.alloc (Obj.map #[] 0)).alloc (Obj.map #[] 0)) (w.heap.size + 1) fNil := by
    have := MapIs.of (World.ownsMap_made (w.alloc (Obj.map #[] 0)) Tryd.prog 9 (plainElem (H := Unit) Tryd.prog 9))
    simpa [fNil] using this
  refine ⟨w.heap.size + 1 + 1, foot (w.heap.size + 1 + 1) w.heap.size (w.heap.size + 1) (.slice none 0 0), rfl, ⟨_, _, _, ⟨Blk.new_at (cs := dCells w.heap.size (w.heap.size + 1) (.slice none 0 0) (DS.new room)) (by simp), ?_, ?_, by omega, [], nilRow _, rfl, fun i o v h1 _ => by simp [DS.new] at h1⟩, rfl⟩, ?_, ?_⟩
  · exact (m1.touch (L := []) (Touch.alloc _) (by simp)).touch (L := []) (Touch.alloc _) (by simp)
  · exact m2.touch (L := []) (Touch.alloc _) (by simp)
  · intro i hi
    rcases DiskAt.mem_foot hi with rfl | rfl | rfl | e
    · omega
    · omega
    · omega
    · cases e
  · exact ((((Below.refl _ _).alloc (Nat.le_refl _) _).alloc (by simp) _).alloc (by simp; omega) _)
end Go.Proofs.YtlenmkemjaaaoaaDoor
