import Derived.Test.YtefjlobdifjogaaGreatDoorM24
import Derived.Test.YtefjlobdifjogaaGreatDoorM28
open Go.Value renaming oneCell' → lA
open Go.World renaming setRow → lB
namespace Go.Proofs.YtefjlobdifjogaaGreatDoor
set_option maxRecDepth 100000
set_option maxHeartbeats 16000000
open Go.Lib renaming hid → iD
open Go.Proofs.Tryz
open Go.RowKit
theorem back_any (m : PMsg) (o n : Value) (s : Str) (w : World) (hM : MsgAt w m o n) (hsl : s.length<=140737488355328) (hK : KeysIn w) :
  Calls Tryz.prog 5 #[.agg (msgL m o n).toArray, .string ⟨s.toArray⟩] w fun e w' => e = .returned (.bool true)/\Below w.heap.size w w' := by
 have hwr := iD (fun W hb => swrite_at hM W hb hK);have hal := iD (fun W (hb : Below w.heap.size w W) => alive16_any W (keys_below hK hb));have hrd := iD (fun (t : Str) (ht : t.length<=140737488355328) W (hb : Below w.heap.size w W) => Z2e t ht W (keys_below hK hb));have hms : (Tryz.prog.info? 25).map (·.size) = some (msgL m o n).length := msgSz m o n;generalize hW1 : w.alloc (.cells (msgL m o n).toArray 25) = w1;have hb1 : Below w.heap.size w w1 := by rw [<-hW1]; exact bL
 have hM1 : Blk w1 w.heap.size 25 (msgL m o n) := by rw [<-hW1]; exact Blk.new_at rfl
 obtain ⟨ML, hML⟩ : ∃ ML, ML = msgL m o n := ⟨_, rfl⟩;rw [<-hML] at hW1 hM1 hms hwr ⊢;have hMa := hM;replace hM := iD hM;replace hMa := iD hMa;replace hms := iD hms;replace hML := iD hML;go_enter func5, ntmps5;go_upto_region 1 with fail;clear hW1;replace hM1 := iD hM1;replace hb1 := iD hb1;go_wp2_with (first
  | (refine wpList_load_blk rfl 25 (.tmp 2) rfl w.heap.size rfl 25 ML hM1.out _ underlying25 rfl hms.out ?_; go_frame)
  | fail)
 refine (hwr.out w1 hb1.out).mono ?_;rintro e w2 ⟨t, er, rfl, hT, htl, hb12⟩;have hM2 := hM1.out.below hb12 hM1.out.lt;have hb2 := hb1.out.trans (hb12.mono hb1.out.size);clear hM1 hb1 hb12 hwr;replace hT := iD hT;replace hM2 := iD hM2;replace hb2 := iD hb2;go_upto_if 19 with fail;go_cut [] (fun wx => Below w2.heap.size w2 wx)
 case first =>
  rcases hT.out with ⟨her, hm, ht⟩ | ⟨her, _⟩
  ·have hrm := Z1v hm hMa.out.fit;rw [<-ht] at hrm;have hne : (er == 0) = true := by rw [her]; rfl
   replace her := iD her;have hrd2 := iD (hrd.out t (by omega) w2 hb2.out);replace ht := iD ht;clear hrd hT;go_wp2_with fail;refine hrd2.out.mono ?_;rintro e w3 ⟨hb23, ⟨m', o', n', hmm, rfl, ho, hn, _, _⟩ | ⟨hno, _⟩⟩
   case inr =>
    rw [hrm] at hno;cases hno
   rw [hrm] at hmm;cases hmm
   obtain ⟨A1, c1, rfl, _, _⟩ := Zc ho;obtain ⟨A2, c2, rfl, _, _⟩ := Zc hn;obtain ⟨NL, hNL⟩ : ∃ NL, NL = msgL m (.slice A1 m.old.length c1) (.slice A2 m.new.length c2) := ⟨_, rfl⟩;have hns : (Tryz.prog.info? 25).map (·.size) = some NL.length := by rw [hNL]; exact msgSz _ _ _
   have hlen : Zj.length = NL.length := by rw [hNL]; rfl
   have hone : ∀ v ∈ NL, v.oneCell' = true := by rw [hNL]; simp [msgL, lA]
   have hb3 := hb2.out.trans (hb23.mono hb2.out.size);have hsm := iD (fun W (hbW : Below w3.heap.size w3 W) => Z0l m m o n (.slice A1 m.old.length c1) (.slice A2 m.new.length c2) (fun _ => True) (fun _ => True) W (hMa.out.old.down (hb3.trans (hbW.mono hb3.size))) (hMa.out.new.down (hb3.trans (hbW.mono hb3.size))) ((Ga ho).stay (fun b _ hlt => hbW.block b hlt) (fun _ _ _ => trivial)) ((Ga hn).stay (fun b _ hlt => hbW.block b hlt) (fun _ _ _ => trivial)) hMa.out.fo hMa.out.fn hMa.out.fo hMa.out.fn);have hM3 := hM2.out.below hb23 hM2.out.lt;rw [<-hNL];clear ho hn hrd2 hM2;replace hNL := iD hNL;replace hns := iD hns;replace hlen := iD hlen;replace hone := iD hone;replace hb23 := iD hb23;go_upto_region 4 with (first
    | (refine Ze rfl 25 (.tmp 7) (.tmp 23) rfl w3.heap.size NL rfl rfl 25 Zj (Blk.new_at rfl) hlen.out hns.out hone.out ?_; go_frame)
    | fail)
   generalize hW4 : lB _ _ _ = w4;have hN4 : Blk w4 w3.heap.size 25 NL := by rw [<-hW4]; exact (Blk.new_at (cs := Zj) rfl).setRow_same _
   have hb34 : Below w3.heap.size w3 w4 := by rw [<-hW4]; exact below_setRow bL (Nat.le_refl _) _
   have hM4 := hM3.below hb34 hM3.lt;have hb24 := hb23.out.trans (hb34.mono hb23.out.size);have hsm4 := iD (hsm.out w4 hb34);clear hW4 hM3 hsm hb23 hb34;replace hN4 := iD hN4;replace hM4 := iD hM4;replace hb24 := iD hb24;have x0 : w4.cell? ⟨w.heap.size, 0, none⟩ = some (.int .i64 m.kind) := (hM4.out.cell 0).trans (by rw [hML.out]; rfl);have x1 : w4.cell? ⟨w.heap.size, 1, none⟩ = some (.int .i64 m.ses) := (hM4.out.cell 1).trans (by rw [hML.out]; rfl);have x2 : w4.cell? ⟨w.heap.size, 2, none⟩ = some (.string ⟨m.name.toArray⟩) := (hM4.out.cell 2).trans (by rw [hML.out]; rfl);have x3 : w4.cell? ⟨w.heap.size, 3, none⟩ = some (o) := (hM4.out.cell 3).trans (by rw [hML.out]; rfl);have x4 : w4.cell? ⟨w.heap.size, 4, none⟩ = some (n) := (hM4.out.cell 4).trans (by rw [hML.out]; rfl);have x5 : w4.cell? ⟨w.heap.size, 5, none⟩ = some (.string ⟨m.pack.toArray⟩) := (hM4.out.cell 5).trans (by rw [hML.out]; rfl);have x6 : w4.cell? ⟨w.heap.size, 6, none⟩ = some (.int .i64 m.code) := (hM4.out.cell 6).trans (by rw [hML.out]; rfl);have z0 : w4.cell? ⟨w3.heap.size, 0, none⟩ = some (.int .i64 m.kind) := (hN4.out.cell 0).trans (by rw [hNL.out]; rfl);have z1 : w4.cell? ⟨w3.heap.size, 1, none⟩ = some (.int .i64 m.ses) := (hN4.out.cell 1).trans (by rw [hNL.out]; rfl);have z2 : w4.cell? ⟨w3.heap.size, 2, none⟩ = some (.string ⟨m.name.toArray⟩) := (hN4.out.cell 2).trans (by rw [hNL.out]; rfl);have z3 : w4.cell? ⟨w3.heap.size, 3, none⟩ = some (.slice A1 m.old.length c1) := (hN4.out.cell 3).trans (by rw [hNL.out]; rfl);have z4 : w4.cell? ⟨w3.heap.size, 4, none⟩ = some (.slice A2 m.new.length c2) := (hN4.out.cell 4).trans (by rw [hNL.out]; rfl);have z5 : w4.cell? ⟨w3.heap.size, 5, none⟩ = some (.string ⟨m.pack.toArray⟩) := (hN4.out.cell 5).trans (by rw [hNL.out]; rfl);have z6 : w4.cell? ⟨w3.heap.size, 6, none⟩ = some (.int .i64 m.code) := (hN4.out.cell 6).trans (by rw [hNL.out]; rfl);go_wp2_with fail;refine hsm4.out.mono ?_;rintro e w5 ⟨q, rfl, hb45, hq⟩;obtain rfl := hq.2 (by first | rfl | trivial);have hb25 := iD (hb24.out.trans (hb45.mono hb24.out.size));clear hb45 hb24 hsm4 hM4 hN4 hq x0 x1 x2 x3 x4 x5 x6 z0 z1 z2 z3 z4 z5 z6;go_wp2_with fail;go_meet;exact hb25.out
  ·have hne : (er == 0) = false := by rw [beq_eq_false_iff_ne]; exact her
   go_wp2_with fail;go_meet;exact Below.refl _ _
 case rest =>
  have hM3 := hM2.out.below hcut hM2.out.lt;have hb3 := hb2.out.trans (hcut.mono hb2.out.size);have hrd2 := iD (hrd.out s hsl wc hb3);clear hcut hM2 hb2 hrd;go_wp2_with fail;refine hrd2.out.mono ?_;rintro e w4 ⟨hb34, ⟨m', o', n', hmm, rfl, ho, hn, _, _⟩ | ⟨hno, er2, her2, rfl⟩⟩
  ·obtain ⟨hmz, hmf, hse⟩ := Zga hmm;obtain ⟨A1, c1, rfl, _, _⟩ := Zc ho;obtain ⟨A2, c2, rfl, _, _⟩ := Zc hn;obtain ⟨NL, hNL⟩ : ∃ NL, NL = msgL m' (.slice A1 m'.old.length c1) (.slice A2 m'.new.length c2) := ⟨_, rfl⟩;have hns : (Tryz.prog.info? 25).map (·.size) = some NL.length := by rw [hNL]; exact msgSz _ _ _
   have hlen : Zj.length = NL.length := by rw [hNL]; rfl
   have hone : ∀ v ∈ NL, v.oneCell' = true := by rw [hNL]; simp [msgL, lA]
   have hb4 := hb3.trans (hb34.mono hb3.size);have hw := iD (fun W (hbW : Below w4.heap.size w4 W) => by
    have := Z2d m' (.slice A1 m'.old.length c1) (.slice A2 m'.new.length c2) (fun _ => True) W (Zm3 hmz) ((Ga ho).stay (fun b _ hlt => hbW.block b hlt) (fun _ _ _ => trivial)) ((Ga hn).stay (fun b _ hlt => hbW.block b hlt) (fun _ _ _ => trivial)) (by have := Vn (Ol hmz).2.2.2.2.1; omega) (fun _ => hmf) (keys_below hK (hb4.trans (hbW.mono hb4.size)));rw [hmz, if_pos rfl, <-hse, <-hNL] at this;exact this)
   rw [<-hNL];clear ho hn hrd2 hM3 hmm hmz hmf hse hb34 hb3;replace hNL := iD hNL;replace hns := iD hns;replace hlen := iD hlen;replace hone := iD hone;replace hb4 := iD hb4;go_upto_region 7 with (first
    | (refine Ze rfl 25 (.tmp 9) (.tmp 36) rfl w4.heap.size NL rfl rfl 25 Zj (Blk.new_at rfl) hlen.out hns.out hone.out ?_; go_frame)
    | fail)
   generalize hW5 : lB _ _ _ = w5;have hN5 : Blk w5 w4.heap.size 25 NL := by rw [<-hW5]; exact (Blk.new_at (cs := Zj) rfl).setRow_same _
   have hb45 : Below w4.heap.size w4 w5 := by rw [<-hW5]; exact below_setRow bL (Nat.le_refl _) _
   have hb5 := hb4.out.trans (hb45.mono hb4.out.size);have hw5 := iD (hw.out w5 hb45);clear hW5 hw hb45 hb4;replace hN5 := iD hN5;replace hb5 := iD hb5;go_wp2_with (first
    | (refine wpList_load_blk rfl 25 (.tmp 9) rfl w4.heap.size rfl 25 NL hN5.out _ underlying25 rfl hns.out ?_; go_frame)
    | fail)
   refine hw5.out.mono ?_;rintro e w6 ⟨rfl, hb56⟩;have hb6 := hb5.out.trans (hb56.mono hb5.out.size);have hal6 := iD (hal.out w6 hb6);clear hw5 hb56 hb5 hN5 hal;replace hb6 := iD hb6;go_wp2_with fail;refine hal6.out.mono ?_;rintro e w7 ⟨rfl, hb67⟩;have hb7 := iD (hb6.out.trans (hb67.mono hb6.out.size));clear hal6 hb6 hb67;go_wp2_with fail;go_returns;exact ⟨rfl, hb7.out⟩
  ·have hb4 := hb3.trans (hb34.mono hb3.size);have hsm := iD (fun W => Z0l Xq Xq Z0 Z0 Z0 Z0 (fun _ => True) (fun _ => True) W Zb.nil Zb.nil Zb.nil Zb.nil Z2h Z2h Z2h Z2h);have hne2 : (er2 != 0) = true := by simpa using her2
   clear hrd2 hM3 hb34 hb3;replace hb4 := iD hb4;go_wp2_with fail;refine (hsm.out _).mono ?_;rintro e w6 ⟨q, rfl, hb56, hq⟩;obtain rfl := hq.2 (by first | rfl | trivial);have hb46 : Below w4.heap.size w4 w6 := bL.trans (hb56.mono (by simp));have hb6 := hb4.out.trans (hb46.mono hb4.out.size);have hal6 := iD (hal.out w6 hb6);clear hsm hb56 hq hb46 hb4 hal;replace hb6 := iD hb6;rcases hT.out with ⟨her, _, _⟩ | ⟨her, ht⟩
   ·have hz : (er == 0) = true := by rw [her]; rfl
    replace her := iD her;go_wp2_with fail;refine hal6.out.mono ?_;rintro e w7 ⟨rfl, hb67⟩;have hb7 := iD (hb6.out.trans (hb67.mono hb6.out.size));clear hal6 hb6 hb67;go_wp2_with fail;go_returns;exact ⟨rfl, hb7.out⟩
   ·have hz : (er == 0) = false := by rw [beq_eq_false_iff_ne]; exact her
    subst ht;replace her := iD her;go_wp2_with fail;refine hal6.out.mono ?_;rintro e w7 ⟨rfl, hb67⟩;have hb7 := iD (hb6.out.trans (hb67.mono hb6.out.size));clear hal6 hb6 hb67;go_wp2_with fail;go_returns;exact ⟨rfl, hb7.out⟩
end Go.Proofs.YtefjlobdifjogaaGreatDoor
