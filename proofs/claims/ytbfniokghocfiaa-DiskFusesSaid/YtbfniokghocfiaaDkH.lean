/- The walks of the law's own helpers: files, same. -/
import Derived.Test.YtbfniokghocfiaaDkG
namespace Go.Proofs.Ytbfniokghocfiaa
open Go.RowKit Go.Maps Go.Sort

/-- The cells of a list of files. -/
def fCells (l : List (List UInt8 × List UInt8)) : List Value := l.flatMap fun p => [strV p.1, strV p.2]
theorem fCells_len : ∀ l, (fCells l).length = l.length * 2
  | [] => rfl
  | p :: l => by
    have := fCells_len l
    unfold fCells at this ⊢
    rw [List.flatMap_cons, List.length_append, this]
    simp; omega
theorem fCells_snoc (l : List (List UInt8 × List UInt8)) (p : List UInt8 × List UInt8) : fCells (l ++ [p]) = fCells l ++ [strV p.1, strV p.2] := by
  simp [fCells]
theorem fCells_drop : ∀ (l : List (List UInt8 × List UInt8)) (k : Nat) (h : k < l.length), ∃ r, (fCells l).drop (k * 2) = [strV l[k].1, strV l[k].2] ++ r
  | p :: l, 0, _ => ⟨fCells l, by simp [fCells]⟩
  | p :: l, k + 1, h => by
    obtain ⟨r, hr⟩ := fCells_drop l k (by simpa using h)
    refine ⟨r, ?_⟩
    have e : fCells (p :: l) = strV p.1 :: strV p.2 :: fCells l := by simp [fCells]
    rw [e, show (k + 1) * 2 = k * 2 + 1 + 1 from by omega, List.drop_succ_cons, List.drop_succ_cons, hr]
    rfl
/-- A slice of files that reads as l, in a block of its own. -/
def FilesIs (w : World) (base : Nat) (v : Value) (l : List (List UInt8 × List UInt8)) : Prop := w.ownsRow base 35 2 v l.length (fCells l)
theorem fileInfo : InfoOf Try.prog 35 (.agg #[.string ⟨#[]⟩, .string ⟨#[]⟩]) 2 32 := ⟨by kernel_rfl, by simp [Value.cells], by omega⟩
theorem FilesIs.touch {w w' : World} {base : Nat} {v : Value} {l : List (List UInt8 × List UInt8)} {L : List Nat} {g : Nat} {S : DS} (h : FilesIs w base v l) (hd : DiskIs w L g S) (ht : Touch L w w') : FilesIs w' base v l := by
  refine own_touch h ht (fun b hb => ?_)
  rcases h.2 with ⟨rfl, _⟩ | ⟨g', cap, cur, rfl, _, hg', _⟩
  · cases hb
  · have : g' = b := by simpa [Value.ownBlock] using hb
    subst this
    exact hd.tag (show Blk w g' 35 cur.toList from by unfold Blk; simpa using hg') (by decide) (by decide)
theorem FilesIs.below {w w' : World} {base : Nat} {v : Value} {l : List (List UInt8 × List UInt8)} (h : FilesIs w base v l) (hb : Below w.heap.size w w') : FilesIs w' base v l := own_touch (L := []) h (Touch.ofBelow hb) (by simp)
def FilesTo (w : World) (l : List (List UInt8 × List UInt8)) (e : Ending) (w' : World) : Prop := ∃ v, e = .returned v ∧ FilesIs w' w.heap.size v l ∧ Below w.heap.size w w'
def FRel (w1 : World) (l : List (List UInt8 × List UInt8)) (k : Nat) (v : Value) (wr : World) : Prop := FilesIs wr w1.heap.size v (l.take k) ∧ Below w1.heap.size w1 wr
theorem row_base {w : World} {b b' : Nat} {e : TypeId} {s : Nat} {v : Value} {n : Nat} {xs : List Value} (h : w.ownsRow b e s v n xs) (hb : b' ≤ b) : w.ownsRow b' e s v n xs := by
  obtain ⟨e1, e2⟩ := h
  refine ⟨e1, ?_⟩
  rcases e2 with e2 | ⟨gx, cap, cur, e3, e4, e5⟩
  · exact .inl e2
  · exact .inr ⟨gx, cap, cur, e3, by omega, e5⟩
theorem below_own {w w' : World} {o : Obj} {base : Nat} {e : TypeId} {s : Nat} {v : Value} {n : Nat} {xs : List Value} (h : w.ownsRow base e s v n xs) (hg : (w.alloc o).grownBy w' v.ownBlock) (hb : base ≤ w.heap.size) : Below base (w.alloc o) w' :=
  (Below.refl _ _).grown hg (by simp; omega) (fun k hk => (h.lt k hk).1)
/-- Every name may be one. -/
def KeysOk (D : DM) : Prop := ∀ k, fHas D k = true → nameB k = true
set_option maxHeartbeats 2000000 in
theorem files_any (g bn bs : Nat) (v : Value) (S : DS) (w : World) (h : DiskAt w g bn bs v S) (ho : S.off = false) (hl : fLen S.now ≤ 4398046511104) (hK : KeysOk S.now) : Calls Try.prog 10 #[.pointer (some ⟨g, 0, none⟩)] w (FilesTo w (fFiles S.now)) := by
  have hn := Lib.hid (names_any g bn bs v S w h ho hl)
  have hkl : Hid (∀ k ∈ fNames S.now, k.length ≤ 140737488355328 ∧ S.readT k = fS S.now k) := Lib.hid (fun k hk => by
    have hb := hK k (names_has h.now.str hk)
    refine ⟨?_, by simp [DS.readT, ho, hb]⟩
    simp [nameB] at hb
    omega)
  have hnl : Hid ((fNames S.now).length = fLen S.now) := Lib.hid (names_len _)
  obtain ⟨ns, hns⟩ : ∃ ns, ns = fNames S.now := ⟨_, rfl⟩
  have hff : Hid (fFiles S.now = ns.map fun k => (k, fS S.now k)) := Lib.hid (by rw [hns]; rfl)
  rw [← hns] at hn hkl hnl
  replace hns := Lib.hid hns
  have hlen : ns.length ≤ 4398046511104 := by rw [hnl.out]; exact hl
  obtain ⟨fl, hfl⟩ : ∃ fl, fl = fFiles S.now := ⟨_, rfl⟩
  rw [← hfl] at hff ⊢
  replace hfl := Lib.hid hfl
  have hfll : Hid (fl.length = ns.length) := Lib.hid (by rw [hff.out]; simp)
  replace h := Lib.hid h
  clear hK ho hl
  go_enter Try.func10, Try.ntmps10
  go_wp2_with fail
  refine hn.out.mono ?_
  rintro e w1 ⟨nv, rfl, hrow, hb1⟩
  obtain ⟨NA, nc, rfl, hnc1, hnc2⟩ := own_form hrow
  replace hrow := Lib.hid hrow
  replace hb1 := Lib.hid hb1
  go_wp2_with fail
  go_loopw [11, 3] (fun i v wr => ∃ k : Nat, k ≤ ns.length ∧ i = .int .i64 k ∧ FRel w1 fl k v wr) (fun i _ _ => ns.length - (intOf i).toNat)
  case atStart => exact ⟨0, Nat.zero_le _, rfl, ⟨rfl, .inl ⟨rfl, rfl⟩⟩, Below.refl _ _⟩
  case round =>
    obtain ⟨k, hk, rfl, hF, hB⟩ := hrel
    by_cases hlt : k < ns.length
    · obtain ⟨gn, hgn⟩ : ∃ gn, NA = some ⟨gn, 0, none⟩ := by
        rcases hrow.out.2 with ⟨hn, h0⟩ | ⟨gn, cap, cur, hv, _⟩
        · omega
        · exact ⟨gn, by injection hv⟩
      subst hgn
      have hck : w1.cell? ⟨gn, k, none⟩ = some (strV ns[k]) := by
        have := hrow.out.cells (g := gn) rfl k (strV ns[k]) (by simp [hlt])
        rw [addr_add] at this
        simpa using this
      have hgl : gn < w1.heap.size := World.block_lt_of_cell? _ _ hck
      have hck2 : wr.cell? ⟨gn, k, none⟩ = some (strV ns[k]) := by rw [hB.cell (p := ⟨gn, k, none⟩) hgl]; exact hck
      have hdr : DiskAt wr g bn bs v S := (h.out.below hb1.out).below hB
      obtain ⟨hkl1, hkl2⟩ := hkl.out ns[k] (List.getElem_mem hlt)
      have hrd := Lib.hid (read_any g bn bs v S ns[k] wr hdr hkl1)
      rw [hkl2] at hrd
      have hfk : Hid (fl.take (k + 1) = fl.take k ++ [(ns[k], fS S.now ns[k])]) := Lib.hid (by
        rw [List.take_succ_eq_append_getElem (by rw [hfll.out]; exact hlt)]
        congr 1
        simp [hff.out])
      have hkk : Hid ((fl.take k).length = k) := Lib.hid (by rw [List.length_take, hfll.out]; omega)
      obtain ⟨a, ha⟩ : ∃ a, a = ns[k] := ⟨_, rfl⟩
      obtain ⟨b, hb⟩ : ∃ b, b = fS S.now ns[k] := ⟨_, rfl⟩
      rw [← hb] at hfk hrd
      rw [← ha] at hfk hrd hck2
      clear hck ha hb hkl1 hkl2
      obtain ⟨FA, fc, rfl, hfc1, hfc2⟩ := own_form hF
      have hsz := hB.size
      rw [hkk.out] at hfc1
      have hF' : Hid (wr.ownsRow w1.heap.size 35 2 (.slice FA k fc) k (fCells (fl.take k))) := Lib.hid (by have := hF; unfold FilesIs at this; rw [hkk.out] at this; exact this)
      rw [hkk.out]
      have hone : Hid (∀ u ∈ [strV a, strV b], u.oneCell' = true) := Lib.hid (by simp [strV, Value.oneCell'])
      replace hB := Lib.hid hB
      clear hF hdr
      go_wp2_with fail
      refine hrd.out.mono ?_
      rintro e w' ⟨rfl, rfl⟩
      unfold strV at hck2 ⊢
      go_wp2_with (at_builtin; refine wpList_append_rd _ rfl (.tmp 21) (.tmp 25) 27 rfl w1.heap.size 35 (.agg #[.string ⟨#[]⟩, .string ⟨#[]⟩]) 2 32 Try.underlying27 fileInfo (.slice FA k fc) k (fCells (fl.take k)) rfl (hF'.out.alloc _) (fun _ => True) (some ⟨wr.heap.size, 0, none⟩) 1 1 [strV a, strV b] rfl rfl (Rd.of_blk (cs := [strV a, strV b]) (r := []) (Blk.new_at rfl) rfl trivial) hone.out (by unfold maxLen; omega) (by omega) (by simp; omega) ?_; intro v' w2 hrow2 hg2 hv2; replace hrow2 := Lib.hid hrow2; replace hg2 := Lib.hid hg2; replace hv2 := Lib.hid hv2; go_frame)
      go_roundw
      case rel =>
        refine ⟨k + 1, by omega, by go_num, ?_, ?_⟩
        · have := hrow2.out
          unfold FilesIs
          rw [hfk.out, fCells_snoc, List.length_append, hkk.out]
          exact this
        · exact (hB.out.alloc hsz _).trans (below_own hF'.out hg2.out hsz)
      case measure => simp [intOf]; omega
    · have hke : k = ns.length := by omega
      subst hke
      have hfk : Hid (fl.take ns.length = fl) := Lib.hid (by rw [← hfll.out, List.take_length])
      replace hF := Lib.hid hF
      replace hB := Lib.hid hB
      go_wp2
      go_ret
      refine ⟨_, rfl, ?_, hb1.out.trans (hB.out.mono hb1.out.size)⟩
      have := hF.out
      rw [hfk.out] at this
      exact row_base this hb1.out.size
end Go.Proofs.Ytbfniokghocfiaa
