/- The walks of Crash and Copy. -/
import Derived.Test.YtlenmkemjaaaoaaDoorDkE
namespace Go.Proofs.YtlenmkemjaaaoaaDoor
open Go.RowKit Go.Maps Go.Sort

/-- A disk whose map of what is sure has been written. -/
theorem DiskAt.wroteS {w w' : World} {g bn bs : Nat} {v : Value} {S : DS} {D : DM} (h : DiskAt w g bn bs v S) (ht : Touch [bs] w w') (hm : MapIs w' bs D) : DiskAt w' g bn bs v { S with sure := D } := by
  have hnb : ∀ i cs t, Blk w i t cs → i ≠ bs := fun i cs t hc e => by
    obtain ⟨es, c, he⟩ := h.sure.at
    subst e; unfold Blk at hc; rw [he] at hc; cases hc
  obtain ⟨vs, ho, hop⟩ := h.row
  refine ⟨h.blk.touch ht (by simpa using hnb g _ _ h.blk), h.now.touch ht (by simpa using h.ne), hm, h.ne, vs, own_touch ho ht (fun b hb => ?_), hop.touch ht (fun i hi cs hc => hnb i cs _ hc (by simpa using hi))⟩
  rcases ho.2 with ⟨rfl, _⟩ | ⟨g', cap, cur, rfl, _, hg', _⟩
  · cases hb
  · have : g' = b := by simpa [Value.ownBlock] using hb
    subst this
    have := hnb g' cur.toList _ (show Blk w g' _ _ from by unfold Blk; simpa using hg')
    simpa using this
def intV (k : Int) : Value := .int .i64 k
/-- A slice of numbers that a crash is handed. -/
def Nums (w : World) (ok : Nat → Prop) (A : Option Addr) (l : List Int) : Prop := Rd w ok A (l.map intV)
theorem Nums.at {w : World} {ok : Nat → Prop} {A : Option Addr} {l : List Int} (h : Nums w ok A l) {i : Nat} (hi : i < l.length) : ∃ ad, A = some ad ∧ w.cell? (ad.add i) = some (.int .i64 l[i]) := by
  obtain ⟨ad, e, _, hc⟩ := h (by simp; omega)
  exact ⟨ad, e, hc i _ (by simp [hi, intV])⟩
theorem below_setRow {B : Nat} {w w' : World} (h : Below B w w') {g : Nat} (hg : B ≤ g) (c : Array Value) : Below B w (w'.setRow g c) :=
  h.trans ⟨rfl, rfl, rfl, by simp [World.setRow], fun k hk => setRow_other w' g k c (by omega)⟩
theorem callSz : (Tryd.prog.info? 120).map (·.size) = some 1 := by kernel_rfl
theorem OpIs.form {w : World} {o : DOp} {v : Value} (h : OpIs w o v) : ∃ fn cap, v = .func (.func fn) #[] cap := by
  cases o with
  | write s t => obtain ⟨a, b, rfl, _⟩ := h; exact ⟨_, _, rfl⟩
  | remove s => obtain ⟨a, rfl, _⟩ := h; exact ⟨_, _, rfl⟩
  | rename s t => obtain ⟨a, b, rfl, _⟩ := h; exact ⟨_, _, rfl⟩
def CrashRel (w : World) (g bn bs : Nat) (v : Value) (S : DS) (l : List Int) (k : Nat) (wr : World) : Prop :=
  DiskAt wr g bn bs v { S with sure := crashTo (S.pend.take k) l S.sure } ∧ Touch (foot g bn bs v) w wr
set_option maxRecDepth 100000 in
set_option maxHeartbeats 2000000 in
theorem crash_any (g bn bs : Nat) (v : Value) (S : DS) (l : List Int) (A : Option Addr) (c : Nat) (w : World) (h : DiskAt w g bn bs v S) (hF : S.Fit) (hq : fLen S.sure + S.pend.length < 8796093022208)
    (hl : Nums w (fun b => b ∉ foot g bn bs v ∧ b < w.heap.size) A l) (hlb : ∀ x ∈ l, x ≤ 9223372036854775807) (hll : l.length ≤ 140737488355328) :
    Calls Tryd.prog 28 #[.pointer (some ⟨g, 0, none⟩), .slice A l.length c] w fun e w' => e = .returned (.tuple #[]) ∧ Turned w (foot g bn bs v) g (S.crash l) w' := by
  have hm := Lib.hid (made_any g bn bs v S w h)
  obtain ⟨vs, hrow, hops⟩ := h.row
  obtain ⟨VA, vc, rfl, hvc1, hvc2⟩ := own_form hrow
  have c2 : w.cell? ⟨g, 2, none⟩ = some (.slice VA S.pend.length vc) := by rw [h.blk.cell]; rfl
  clear hrow hops
  replace h := Lib.hid h
  replace hl := Lib.hid hl
  replace hF := Lib.hid hF
  replace hlb := Lib.hid hlb
  go_enter Tryd.func28, Tryd.ntmps28
  go_wp2_with fail
  refine hm.out.mono ?_
  rintro e w1 ⟨rfl, rfl⟩
  go_wp2_with fail
  go_loopw [14] (fun i wr => ∃ k : Nat, k ≤ S.pend.length ∧ i = .int .i64 k ∧ CrashRel w g bn bs (.slice VA S.pend.length vc) S l k wr) (fun i _ => S.pend.length - (intOf i).toNat)
  case atStart => exact ⟨0, Nat.zero_le _, rfl, by simpa [crashTo] using h.out, Touch.refl _ _⟩
  case round =>
    obtain ⟨k, hk, rfl, hd, ht⟩ := hrel
    by_cases hlt : k < S.pend.length
    · obtain ⟨o, ho⟩ : ∃ o, o = S.pend[k] := ⟨_, rfl⟩
      have hok : o.ok := hF.out.ops o (by rw [ho]; exact List.getElem_mem hlt)
      have hpk : S.pend[k]? = some o := by rw [ho]; exact List.getElem?_eq_getElem hlt
      have htk : S.pend.take (k + 1) = S.pend.take k ++ [o] := by rw [List.take_succ_eq_append_getElem hlt, ho]
      have hsn := crashTo_snoc o (S.pend.take k) l S.sure
      have hle := crashTo_len (S.pend.take k) l S.sure hF.out.sure
      rw [← htk] at hsn
      have hlk : (S.pend.take k).length = k := by simp; omega
      rw [hlk] at hsn hle
      obtain ⟨vs', hrow, hops⟩ := hd.row
      have hcl : ∃ gr cl, VA = some ⟨gr, 0, none⟩ ∧ wr.cell? ⟨gr, k, none⟩ = some cl ∧ OpIs wr o cl := by
        rcases hrow.2 with ⟨hn, h0⟩ | ⟨gr, cap, cur, hv, _, hg, _⟩
        · have h0' : S.pend.length = 0 := h0
          omega
        · have hVA : VA = some ⟨gr, 0, none⟩ := by injection hv
          have hvl : k < vs'.length := by have := hops.1; simp only at this; omega
          refine ⟨gr, vs'[k], hVA, ?_, hops.2 k o _ hpk (List.getElem?_eq_getElem hvl)⟩
          subst hVA
          have := hrow.cells (g := gr) rfl k vs'[k] (List.getElem?_eq_getElem hvl)
          rw [addr_add] at this
          simpa using this
      obtain ⟨gr, cl, rfl, hck, hop⟩ := hcl
      obtain ⟨fn, cap, hform⟩ := hop.form
      subst hform
      have hgr : gr < wr.heap.size := World.block_lt_of_cell? _ _ hck
      have hb1 : Below wr.heap.size wr ((wr.alloc (Obj.cells #[Value.nilFunc] 120)).setRow wr.heap.size #[Value.func (.func fn) #[] cap]) := below_setRow ((Below.refl _ _).alloc (Nat.le_refl _) _) (Nat.le_refl _) _
      have hbox : Blk ((wr.alloc (Obj.cells #[Value.nilFunc] 120)).setRow wr.heap.size #[Value.func (.func fn) #[] cap]) wr.heap.size 120 [.func (.func fn) #[] cap] := (Blk.new_at (cs := [Value.nilFunc]) rfl).setRow_same _
      obtain ⟨W2, hW2⟩ : ∃ W2, W2 = (wr.alloc (Obj.cells #[Value.nilFunc] 120)).setRow wr.heap.size #[Value.func (.func fn) #[] cap] := ⟨_, rfl⟩
      rw [← hW2] at hb1 hbox
      have hd2 := hd.below hb1
      have hop2 := hop.touch (L := []) (Touch.ofBelow hb1) (by simp [NoBox])
      have htt2 := ht.trans (Touch.ofBelow (L := []) hb1) (by simp)
      replace hW2 := Lib.hid hW2
      replace ho := Lib.hid ho
      replace hpk := Lib.hid hpk
      replace htk := Lib.hid htk
      replace hlk := Lib.hid hlk
      replace hsn := Lib.hid hsn
      replace hle := Lib.hid hle
      replace hd := Lib.hid hd
      replace ht := Lib.hid ht
      replace htt2 := Lib.hid htt2
      replace hd2 := Lib.hid hd2
      replace hop2 := Lib.hid hop2
      replace hok := Lib.hid hok
      replace hbox := Lib.hid hbox
      replace hb1 := Lib.hid hb1
      have hone : Hid (∀ u ∈ [Value.func (.func fn) #[] cap], u.oneCell' = true) := Lib.hid (fun u hu => by rw [List.mem_singleton.1 hu]; rfl)
      clear hrow hops hop
      by_cases hl1 : k < l.length
      · obtain ⟨ad, rfl, hca⟩ := Nums.at hl.out hl1
        obtain ⟨b0, o0, sp⟩ := ad
        obtain ⟨ad0, had0, hca0⟩ := Nums.at hl.out (i := 0) (by omega)
        injection had0 with had0
        subst had0
        have hsp : sp = none := by simpa [Addr.add] using World.cell?_spot hca0
        clear hca0
        subst hsp
        rw [addr_add] at hca
        obtain ⟨_, hadE, hbok, _⟩ := hl.out (by simp; omega)
        injection hadE with hadE
        subst hadE
        have hbok' : b0 ∉ foot g bn bs (.slice (some ⟨gr, 0, none⟩) S.pend.length vc) ∧ b0 < w.heap.size := hbok
        have hcr : wr.cell? ⟨b0, o0 + k, none⟩ = some (.int .i64 l[k]) := by rw [← hca]; exact World.cell?_of_block (ht.out.block b0 hbok'.2 hbok'.1)
        have hb0 : b0 < wr.heap.size := World.block_lt_of_cell? _ _ hcr
        have hgx : l.getD k 0 = l[k] := by simp [hl1]
        rw [hgx] at hsn
        have hxb := hlb.out l[k] (List.getElem_mem hl1)
        obtain ⟨x, hx⟩ : ∃ x, x = l[k] := ⟨_, rfl⟩
        rw [← hx] at hsn hcr hxb
        clear hgx hca hbok hbok' hx
        by_cases hx0 : 0 < x
        · obtain ⟨fn', cap', hff, hen, hc⟩ : ∃ fn' cap', Value.func (.func fn) #[] cap = .func (.func fn') #[] cap' ∧ Enters Tryd.prog fn' ∧ ∀ nq, Calls Tryd.prog fn' (#[.map (some bs), .int .i64 x] ++ cap') (W2.drewN nq) fun e w' => e = .returned (.tuple #[]) ∧ MapIs w' bs (o.act x (crashTo (S.pend.take k) l S.sure)) ∧ Touch [bs] (W2.drewN nq) w' := by
            obtain ⟨fn', cap', h1, h2, _⟩ := cl_any _ bs _ o _ x hxb hd2.out.sure (by have := hle.out; show fLen (crashTo (S.pend.take k) l S.sure) < _; omega) hop2.out hok.out
            refine ⟨fn', cap', h1, h2, fun nq => ?_⟩
            have hb3 := Touch.drewN (L := []) (w := W2) nq
            obtain ⟨fn2, cap2, h3, _, h4⟩ := cl_any _ bs _ o _ x hxb (hd2.out.sure.touch hb3 (by simp)) (by have := hle.out; show fLen (crashTo (S.pend.take k) l S.sure) < _; omega) (hop2.out.touch hb3 (by simp [NoBox])) hok.out
            rw [h1] at h3
            injection h3 with h5 h6 h7
            injection h5 with h5
            subst h5; subst h7
            exact h4
          injection hff with h5 h6 h7
          injection h5 with h5
          subst h5; subst h7
          have hx1 : decide (0 < x) = true := by simpa using hx0
          rw [if_pos hx0] at hsn
          replace hen := Lib.hid hen
          replace hc := Lib.hid hc
          have csu : wr.cell? ⟨g, 1, none⟩ = some (.map (some bs)) := by rw [hd.out.blk.cell]; rfl
          have hgl : g < wr.heap.size := hd.out.blk.lt
          have i1 : (0 : Int) ≤ (k : Int) := by omega
          have i2 : (k : Int) < (l.length : Int) := by omega
          have csu2 : W2.cell? ⟨g, 1, none⟩ = some (.map (some bs)) := by rw [hb1.out.cell (p := ⟨g, 1, none⟩) hgl]; exact csu
          have hcr2 : W2.cell? ⟨b0, o0 + k, none⟩ = some (.int .i64 x) := by rw [hb1.out.cell (p := ⟨b0, o0 + k, none⟩) hb0]; exact hcr
          have cb2 : W2.cell? ⟨wr.heap.size, 0, none⟩ = some (.func (.func fn) #[] cap) := by rw [hbox.out.cell]; rfl
          go_wp2_with (refine wpList_store_blk rfl 120 (.tmp 5) (.tmp 18) rfl wr.heap.size [.func (.func fn) #[] cap] rfl rfl 120 [.nilFunc] (Blk.new_at rfl) rfl callSz hone.out ?_; rw [show (wr.alloc (Obj.cells #[Value.nilFunc] 120)).setRow wr.heap.size [Value.func (.func fn) #[] cap].toArray = W2 from hW2.out.symm]; go_frame)
          refine quiet_tail 10 (by kernel_rfl) (by kernel_rfl) ?_
          simp only [List.take_succ_cons, List.take_zero, List.drop_succ_cons, List.drop_zero]
          repeat (first | go_big_quiet_step (fail))
          refine wpQuiet_nil ?_
          rintro _ ⟨nq, rfl⟩
          go_wp2_with fail
          rw [hen.out, Oper.upon_enter]
          refine (hc.out nq).mono ?_
          rintro e w3 ⟨rfl, hm3, ht3⟩
          have hd3 := (hd2.out.touch (Touch.drewN (L := []) nq) (by simp) (by simp [NoBox])).wroteS ht3 hm3
          have htt3 := (htt2.out.trans (Touch.drewN (L := []) nq) (by simp)).trans ht3 (fun i hi => .inl (by have : i = bs := (by simpa using hi); rw [this]; simp [foot]))
          replace hd3 := Lib.hid hd3
          replace htt3 := Lib.hid htt3
          clear hm3 ht3
          go_wp2
          go_roundw
          case rel => exact ⟨k + 1, by omega, by go_num, by rw [hsn.out]; exact hd3.out, htt3.out⟩
          case measure => simp [intOf]; omega
        · have hx1 : decide (0 < x) = false := by simpa using hx0
          rw [if_neg hx0] at hsn
          have hcr2 : W2.cell? ⟨b0, o0 + k, none⟩ = some (.int .i64 x) := by rw [hb1.out.cell (p := ⟨b0, o0 + k, none⟩) hb0]; exact hcr
          go_wp2_with (refine wpList_store_blk rfl 120 (.tmp 5) (.tmp 18) rfl wr.heap.size [.func (.func fn) #[] cap] rfl rfl 120 [.nilFunc] (Blk.new_at rfl) rfl callSz hone.out ?_; rw [show (wr.alloc (Obj.cells #[Value.nilFunc] 120)).setRow wr.heap.size [Value.func (.func fn) #[] cap].toArray = W2 from hW2.out.symm]; go_frame)
          go_roundw
          case rel => exact ⟨k + 1, by omega, by go_num, by rw [hsn.out]; exact hd2.out, htt2.out⟩
          case measure => simp [intOf]; omega
      · have hgx : l.getD k 0 = 0 := by rw [List.getD_eq_getElem?_getD, List.getElem?_eq_none (by omega)]; rfl
        rw [hgx] at hsn
        clear hgx
        go_wp2_with (refine wpList_store_blk rfl 120 (.tmp 5) (.tmp 18) rfl wr.heap.size [.func (.func fn) #[] cap] rfl rfl 120 [.nilFunc] (Blk.new_at rfl) rfl callSz hone.out ?_; rw [show (wr.alloc (Obj.cells #[Value.nilFunc] 120)).setRow wr.heap.size [Value.func (.func fn) #[] cap].toArray = W2 from hW2.out.symm]; go_frame)
        go_roundw
        case rel => exact ⟨k + 1, by omega, by go_num, by rw [hsn.out]; exact hd2.out, htt2.out⟩
        case measure => simp [intOf]; omega
    · have hke : k = S.pend.length := by omega
      subst hke
      rw [List.take_length] at hd
      have hcl := Lib.hid (mclone_any wr bs _ hd.sure)
      have c1 : wr.cell? ⟨g, 1, none⟩ = some (.map (some bs)) := by rw [hd.blk.cell]; rfl
      replace hd := Lib.hid hd
      replace ht := Lib.hid ht
      go_wp2_with fail
      refine hcl.out.mono ?_
      rintro e w2 ⟨rfl, hm2, hb2⟩
      have hd2 := hd.out.below hb2
      have z0 := hd2.blk.frozen 0
      have z2 := hd2.blk.frozen 2
      have z4 := hd2.blk.frozen 4
      have z5 := hd2.blk.frozen 5
      have d0 : w2.cell? ⟨g, 0, none⟩ = some (.map (some bn)) := by rw [hd2.blk.cell]; rfl
      have d2 : w2.cell? ⟨g, 2, none⟩ = some (.slice VA S.pend.length vc) := by rw [hd2.blk.cell]; rfl
      have d4 : w2.cell? ⟨g, 4, none⟩ = some (.int .i64 S.fuse) := by rw [hd2.blk.cell]; rfl
      have d5 : w2.cell? ⟨g, 5, none⟩ = some (.bool S.off) := by rw [hd2.blk.cell]; rfl
      have hlt2 : wr.heap.size ≠ bs := by have := hd.out.sure.lt; omega
      have hg1 : g < wr.heap.size := hd.out.blk.lt
      obtain ⟨gg, hgg⟩ : ∃ gg, gg = wr.heap.size := ⟨_, rfl⟩
      rw [← hgg] at hlt2 hg1 hm2 ⊢
      replace hd2 := Lib.hid hd2
      replace hm2 := Lib.hid hm2
      replace hb2 := Lib.hid hb2
      replace hlt2 := Lib.hid hlt2
      replace hgg := Lib.hid hgg
      clear c1 hlt hk c2
      go_wp2
      have ht2 : Touch [g] w2 ((((w2.setCell ⟨g, 0, none⟩ (.map (some gg))).setCell ⟨g, 2, none⟩ (.slice none 0 0)).setCell ⟨g, 4, none⟩ (.int .i64 (-1))).setCell ⟨g, 5, none⟩ (.bool false)) :=
        (((Touch.setCell _ (by simp)).trans (Touch.setCell _ (by simp)) (fun i hi => .inl hi)).trans (Touch.setCell _ (by simp)) (fun i hi => .inl hi)).trans (Touch.setCell _ (by simp)) (fun i hi => .inl hi)
      refine bodyPost_end (v := .tuple #[]) (results_none (by rfl) _ _ _) rfl ⟨rfl, ?_⟩
      refine ⟨ht.out.trans ((Touch.ofBelow (L := foot g bn bs (.slice VA S.pend.length vc)) hb2.out).trans ht2 (fun i hi => .inl (by have : i = g := (by simpa using hi); rw [this]; simp [foot]))) (fun i hi => .inl hi), foot g gg bs (.slice none 0 0), ⟨gg, bs, .slice none 0 0, ⟨(((hd2.out.blk.set_ 0 _).set_ 2 _).set_ 4 _).set_ 5 _, hm2.out.touch ht2 (by simp; omega), hd2.out.sure.touch ht2 (by simpa using hd2.out.gne bs (by simp)), hlt2.out, [], nilRow _, rfl, fun i o v h1 _ => by simp [DS.crash] at h1⟩, rfl⟩, ?_⟩
      intro i hi
      rcases DiskAt.mem_foot hi with rfl | rfl | rfl | e
      · simp [foot]
      · right; rw [hgg.out]; exact ht.out.size
      · simp [foot]
      · cases e
end Go.Proofs.YtlenmkemjaaaoaaDoor
