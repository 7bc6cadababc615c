/- One disk that a call has made: its calls; the walk of alive. -/
import Derived.Test.YtbfniokghocfiaaDkJ
namespace Go.Proofs.Ytbfniokghocfiaa
open Go.RowKit Go.Maps Go.Sort

/-- Every slice of files stays. -/
def KeepF (w w' : World) : Prop := ∀ base v l, FilesIs w base v l → FilesIs w' base v l
theorem KeepF.below {w w' : World} (h : Below w.heap.size w w') : KeepF w w' := fun _ _ _ hf => hf.below h
theorem KeepF.trans {w w1 w' : World} (h : KeepF w w1) (h' : KeepF w1 w') : KeepF w w' := fun b v l hf => h' b v l (h b v l hf)
theorem KeepF.turned {w w' : World} {L : List Nat} {g : Nat} {S S' : DS} (hd : DiskIs w L g S) (hT : Turned w L g S' w') : KeepF w w' := fun _ _ _ hf => hf.touch hd hT.1
section
variable {w wr : World} {g : Nat} {S : DS}
theorem PlayRel.below {w' : World} (h : PlayRel w g S wr) (hb : Below wr.heap.size wr w') : PlayRel w g S w' := by
  obtain ⟨L, hd, hL, hB⟩ := h
  exact ⟨L, hd.below hb, hL, hB.trans (hb.mono hB.size)⟩
theorem pr_write (s t : List UInt8) (h : PlayRel w g S wr) (hA : Asked S) (hs : s.length ≤ 140737488355328) (ht : t.length ≤ 140737488355328) :
    Calls Try.prog 21 #[.pointer (some ⟨g, 0, none⟩), strV s, strV t] wr fun e w' => e = .returned (.int .i64 ((Call.write s t).errno S)) ∧ PlayRel w g ((Call.write s t).turn S) w' ∧ KeepF wr w' := by
  obtain ⟨L, ⟨bn, bs, v, hd, rfl⟩, hL, hB⟩ := h
  exact (write_any g bn bs v S s t wr hd hA hs ht).mono fun e w' ⟨he, hT⟩ => ⟨he, PlayRel.turned hL hB hT, KeepF.turned ⟨_, _, _, hd, rfl⟩ hT⟩
theorem pr_sync (h : PlayRel w g S wr) (hF : S.Fit) :
    Calls Try.prog 11 #[.pointer (some ⟨g, 0, none⟩)] wr fun e w' => e = .returned (.int .i64 (Call.sync.errno S)) ∧ PlayRel w g (Call.sync.turn S) w' ∧ KeepF wr w' := by
  obtain ⟨L, ⟨bn, bs, v, hd, rfl⟩, hL, hB⟩ := h
  exact (sync_any g bn bs v S wr hd hF).mono fun e w' ⟨he, hT⟩ => ⟨he, PlayRel.turned hL hB hT, KeepF.turned ⟨_, _, _, hd, rfl⟩ hT⟩
theorem pr_call (x : ActD) (h : PlayRel w g S wr) (hA : Asked S) (hx : x.Ok) :
    Calls Try.prog 15 #[.pointer (some ⟨g, 0, none⟩), .agg x.cells.toArray] wr fun e w' => e = .returned (.int .i64 (x.call.errno S)) ∧ PlayRel w g (x.call.turn S) w' ∧ KeepF wr w' := by
  obtain ⟨L, ⟨bn, bs, v, hd, rfl⟩, hL, hB⟩ := h
  exact (call_any g bn bs v S x wr hd hA hx).mono fun e w' ⟨he, hT⟩ => ⟨he, PlayRel.turned hL hB hT, KeepF.turned ⟨_, _, _, hd, rfl⟩ hT⟩
theorem pr_read (s : List UInt8) (h : PlayRel w g S wr) (hs : s.length ≤ 140737488355328) :
    Calls Try.prog 18 #[.pointer (some ⟨g, 0, none⟩), strV s] wr fun e w' => e = .returned (.tuple #[strV (S.readT s), .int .i64 (S.readE s)]) ∧ wr = w' := by
  obtain ⟨L, ⟨bn, bs, v, hd, rfl⟩, hL, hB⟩ := h
  exact read_any g bn bs v S s wr hd hs
theorem pr_size (h : PlayRel w g S wr) (ho : S.off = false) (hs : fSum S.now ≤ 1099511627776) :
    Calls Try.prog 16 #[.pointer (some ⟨g, 0, none⟩)] wr fun e w' => e = .returned (.int .i64 (fSum S.now)) ∧ Below wr.heap.size wr w' := by
  obtain ⟨L, ⟨bn, bs, v, hd, rfl⟩, hL, hB⟩ := h
  exact dsize_any g bn bs v S wr hd ho hs
theorem pr_files (h : PlayRel w g S wr) (ho : S.off = false) (hl : fLen S.now ≤ 4398046511104) (hK : KeysOk S.now) :
    Calls Try.prog 10 #[.pointer (some ⟨g, 0, none⟩)] wr (FilesTo wr (fFiles S.now)) := by
  obtain ⟨L, ⟨bn, bs, v, hd, rfl⟩, hL, hB⟩ := h
  exact files_any g bn bs v S wr hd ho hl hK
theorem pr_crash (l : List Int) (A : Option Addr) (c : Nat) (h : PlayRel w g S wr) (hF : S.Fit) (hq : fLen S.sure + S.pend.length < 8796093022208) (hl : ∀ L, (∀ i ∈ L, w.heap.size ≤ i) → DiskIs wr L g S → Nums wr (fun b => b ∉ L ∧ b < wr.heap.size) A l) (hlb : ∀ x ∈ l, x ≤ 9223372036854775807) (hll : l.length ≤ 140737488355328) :
    Calls Try.prog 12 #[.pointer (some ⟨g, 0, none⟩), .slice A l.length c] wr fun e w' => e = .returned (.tuple #[]) ∧ PlayRel w g (S.crash l) w' ∧ KeepF wr w' := by
  obtain ⟨L, hd, hL, hB⟩ := h
  have hn := hl L hL hd
  obtain ⟨bn, bs, v, hd, rfl⟩ := hd
  exact (crash_any g bn bs v S l A c wr hd hF hq hn hlb hll).mono fun e w' ⟨he, hT⟩ => ⟨he, PlayRel.turned hL hB hT, KeepF.turned ⟨_, _, _, hd, rfl⟩ hT⟩
end
def Sa0 : DS := DS.new 100
def Sa1 : DS := (Call.write [97] [120, 121]).turn Sa0
def Sa2 : DS := Call.sync.turn Sa1
def Sa3 : DS := (Call.write [97] [122, 119]).turn Sa2
def Sa4 : DS := Sa3.crash [3]
theorem ea1 : (Call.write [97] [120, 121]).errno Sa0 = 0 := by decide +kernel
theorem ea2 : Call.sync.errno Sa1 = 0 := by decide +kernel
theorem ea3 : (Call.write [97] [122, 119]).errno Sa2 = 0 := by decide +kernel
theorem ea4 : Sa4.readT [97] = [122] := by decide +kernel
theorem ea5 : Sa4.readE [97] = 0 := by decide +kernel
theorem ea6 : fSum Sa4.now = 1 := by decide +kernel
theorem ia0 : Inv Sa0 0 := Inv.new (by omega) (by omega)
theorem ia1 : Inv Sa1 1 := ia0.turn _
theorem ia2 : Inv Sa2 2 := ia1.turn _
theorem ia3 : Inv Sa3 3 := ia2.turn _
set_option maxHeartbeats 2000000 in
theorem alive_any (w : World) : Calls Try.prog 9 #[] w fun e w' => e = .returned (.bool true) ∧ Below w.heap.size w w' := by
  have hnew := Lib.hid (new_any 100 w (by omega) (by omega))
  go_enter Try.func9, Try.ntmps9
  go_wp2_with fail
  refine hnew.out.mono ?_
  rintro e w1 ⟨g, L, rfl, hd, hL, hb⟩
  have h0 : Hid (PlayRel w g Sa0 w1) := Lib.hid ⟨L, hd, hL, hb⟩
  clear hd hL hb
  go_wp2_with fail
  refine (pr_write [97] [120, 121] h0.out (ia0.asked (by omega)) (by simp) (by simp)).mono ?_
  rintro e w2 ⟨rfl, h1, _⟩
  rw [ea1]
  replace h1 : Hid (PlayRel w g Sa1 w2) := Lib.hid h1
  go_wp2_with fail
  refine (pr_sync h1.out ia1.toFit).mono ?_
  rintro e w3 ⟨rfl, h2, _⟩
  rw [ea2]
  replace h2 : Hid (PlayRel w g Sa2 w3) := Lib.hid h2
  go_wp2_with fail
  refine (pr_write [97] [122, 119] h2.out (ia2.asked (by omega)) (by simp) (by simp)).mono ?_
  rintro e w4 ⟨rfl, h3, _⟩
  rw [ea3]
  replace h3 : Hid (PlayRel w g Sa3 w4) := Lib.hid h3
  go_wp2_with fail
  have hb5 : Below w4.heap.size w4 (w4.alloc (Obj.cells #[Value.int IntKind.i64 3] 3)) := (Below.refl _ _).alloc (Nat.le_refl _) _
  have hB5 : Blk (w4.alloc (Obj.cells #[Value.int IntKind.i64 3] 3)) w4.heap.size 3 [.int .i64 3] := Blk.new_at (cs := [.int .i64 3]) rfl
  have h4 := h3.out.below hb5
  have hfs := ia3.few'
  have hfl := ia3.len
  refine (pr_crash [3] (some ⟨w4.heap.size, 0, none⟩) 1 h4 ia3.toFit (by omega) (fun L _ hd => ?_) (by simp) (by simp)).mono ?_
  · exact Rd.of_blk (r := []) hB5 rfl ⟨hd.tag hB5 (by decide) (by decide), hB5.lt⟩
  rintro e w5 ⟨rfl, h5, _⟩
  replace h5 : Hid (PlayRel w g Sa4 w5) := Lib.hid h5
  clear hb5 hB5 h4 hfs hfl
  go_wp2_with fail
  refine (pr_read [97] h5.out (by simp)).mono ?_
  rintro e w6 ⟨rfl, rfl⟩
  rw [ea4, ea5]
  unfold strV
  go_wp2_with fail
  refine (pr_size h5.out rfl (by rw [ea6]; omega)).mono ?_
  rintro e w6 ⟨rfl, hb6⟩
  rw [ea6]
  replace hb6 := Lib.hid hb6
  go_wp2
  go_ret
  obtain ⟨_, _, _, hB⟩ := h5.out.below hb6.out
  exact ⟨rfl, hB⟩
end Go.Proofs.Ytbfniokghocfiaa
