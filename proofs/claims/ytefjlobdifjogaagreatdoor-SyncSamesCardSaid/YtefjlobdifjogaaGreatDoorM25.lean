import Derived.Test.YtefjlobdifjogaaGreatDoorM20
open Go.RowKit.Below renaming trans → lA, size → lB
namespace Go.Proofs.YtefjlobdifjogaaGreatDoor
set_option maxRecDepth 100000
set_option maxHeartbeats 16000000
open Go.Lib renaming hid → iD
open Go.Proofs.Tryz
open Go.RowKit
theorem Zlz (m n : PMsg) (mo mn no nn : Value) (ok ok' : Nat->Prop) (w : World) (h1 : Zb w ok mo m.old) (h2 : Zb w ok mn m.new) (h3 : Zb w ok' no n.old) (h4 : Zb w ok' nn n.new) (f1 : HFit m.old) (f2 : HFit m.new) (f3 : HFit n.old) (f4 : HFit n.new) :
  Calls Tryz.prog 10 #[.agg (msgL m mo mn).toArray, .agg (msgL n no nn).toArray] w fun e w' => ∃ q : Bool, e = .returned (.bool q)/\Below w.heap.size w w'/\(q = true ↔ m = n) := by
 generalize hW1 : (w.alloc (.cells (msgL m mo mn).toArray 25)).alloc (.cells (msgL n no nn).toArray 25) = w1;have hb1 : Below w.heap.size w w1 := by rw [<-hW1]; exact bL.alloc (by simp) _
 have hA1 : Blk w1 w.heap.size 25 (msgL m mo mn) := by rw [<-hW1]; exact (Blk.new_at (cs := msgL m mo mn) rfl).alloc _
 have hB1 : Blk w1 (w.heap.size + 1) 25 (msgL n no nn) := by rw [<-hW1]; exact Blk.new_at (cs := msgL n no nn) (by simp)
 have hq1 := iD (fun W (hb : Below w.heap.size w W) => Z74 m.old n.old mo no ok ok' W (h1.stay (fun b _ hlt => hb.block b hlt) (fun b hb _ => hb)) (h3.stay (fun b _ hlt => hb.block b hlt) (fun b hb _ => hb)) f1 f3);have hq2 := iD (fun W (hb : Below w.heap.size w W) => Z74 m.new n.new mn nn ok ok' W (h2.stay (fun b _ hlt => hb.block b hlt) (fun b hb _ => hb)) (h4.stay (fun b _ hlt => hb.block b hlt) (fun b hb _ => hb)) f2 f4);clear h1 h2 h3 h4 f1 f2 f3 f4;obtain ⟨k1, s1, n1, o1, u1, p1, c1⟩ := m;obtain ⟨k2, s2, n2, o2, u2, p2, c2⟩ := n;obtain ⟨A, hA⟩ : ∃ A, A = msgL ⟨k1, s1, n1, o1, u1, p1, c1⟩ mo mn := ⟨_, rfl⟩;obtain ⟨C, hC⟩ : ∃ C, C = msgL ⟨k2, s2, n2, o2, u2, p2, c2⟩ no nn := ⟨_, rfl⟩;rw [<-hA] at hA1 hW1 ⊢;rw [<-hC] at hB1 hW1 ⊢;have a0 : A[0]? = some (.int .i64 k1) := by rw [hA]; rfl
 have a1 : A[1]? = some (.int .i64 s1) := by rw [hA]; rfl
 have a2 : A[2]? = some (.string ⟨n1.toArray⟩) := by rw [hA]; rfl
 have a3 : A[3]? = some mo := by rw [hA]; rfl
 have a4 : A[4]? = some mn := by rw [hA]; rfl
 have a5 : A[5]? = some (.string ⟨p1.toArray⟩) := by rw [hA]; rfl
 have a6 : A[6]? = some (.int .i64 c1) := by rw [hA]; rfl
 have b0 : C[0]? = some (.int .i64 k2) := by rw [hC]; rfl
 have b1 : C[1]? = some (.int .i64 s2) := by rw [hC]; rfl
 have b2 : C[2]? = some (.string ⟨n2.toArray⟩) := by rw [hC]; rfl
 have b3 : C[3]? = some no := by rw [hC]; rfl
 have b4 : C[4]? = some nn := by rw [hC]; rfl
 have b5 : C[5]? = some (.string ⟨p2.toArray⟩) := by rw [hC]; rfl
 have b6 : C[6]? = some (.int .i64 c2) := by rw [hC]; rfl
 replace hA := iD hA;replace hC := iD hC;have x0 : w1.cell? ⟨w.heap.size, 0, none⟩ = some _ := (hA1.cell 0).trans a0;have y0 : w1.cell? ⟨w.heap.size + 1, 0, none⟩ = some _ := (hB1.cell 0).trans b0;have x1 : w1.cell? ⟨w.heap.size, 1, none⟩ = some _ := (hA1.cell 1).trans a1;have y1 : w1.cell? ⟨w.heap.size + 1, 1, none⟩ = some _ := (hB1.cell 1).trans b1;have x2 : w1.cell? ⟨w.heap.size, 2, none⟩ = some _ := (hA1.cell 2).trans a2;have y2 : w1.cell? ⟨w.heap.size + 1, 2, none⟩ = some _ := (hB1.cell 2).trans b2;have x3 : w1.cell? ⟨w.heap.size, 3, none⟩ = some _ := (hA1.cell 3).trans a3;have y3 : w1.cell? ⟨w.heap.size + 1, 3, none⟩ = some _ := (hB1.cell 3).trans b3;have x4 : w1.cell? ⟨w.heap.size, 4, none⟩ = some _ := (hA1.cell 4).trans a4;have y4 : w1.cell? ⟨w.heap.size + 1, 4, none⟩ = some _ := (hB1.cell 4).trans b4;have x5 : w1.cell? ⟨w.heap.size, 5, none⟩ = some _ := (hA1.cell 5).trans a5;have y5 : w1.cell? ⟨w.heap.size + 1, 5, none⟩ = some _ := (hB1.cell 5).trans b5;have x6 : w1.cell? ⟨w.heap.size, 6, none⟩ = some _ := (hA1.cell 6).trans a6;have y6 : w1.cell? ⟨w.heap.size + 1, 6, none⟩ = some _ := (hB1.cell 6).trans b6;go_enter func10, ntmps10;by_cases he0 : k1 = k2
 ·subst he0;by_cases he1 : s1 = s2
  ·subst he1;by_cases he2 : n1 = n2
   ·subst he2;go_wp2_with fail;refine (hq1.out w1 hb1).mono ?_;rintro e w3 ⟨rfl, hc3⟩;replace hA1 := hA1.below hc3 hA1.lt;replace hB1 := hB1.below hc3 hB1.lt;have hb3 := lA hb1 (hc3.mono (lB hb1));clear hc3 x0 y0 x1 y1 x2 y2 x3 y3 x4 y4 x5 y5 x6 y6;have x4 : w3.cell? ⟨w.heap.size, 4, none⟩ = some _ := (hA1.cell 4).trans a4;have y4 : w3.cell? ⟨w.heap.size + 1, 4, none⟩ = some _ := (hB1.cell 4).trans b4;have x5 : w3.cell? ⟨w.heap.size, 5, none⟩ = some _ := (hA1.cell 5).trans a5;have y5 : w3.cell? ⟨w.heap.size + 1, 5, none⟩ = some _ := (hB1.cell 5).trans b5;have x6 : w3.cell? ⟨w.heap.size, 6, none⟩ = some _ := (hA1.cell 6).trans a6;have y6 : w3.cell? ⟨w.heap.size + 1, 6, none⟩ = some _ := (hB1.cell 6).trans b6;by_cases he3 : o1 = o2
    ·subst he3;rw [decide_eq_true rfl];go_wp2_with fail;refine (hq2.out w3 hb3).mono ?_;rintro e w4 ⟨rfl, hc4⟩;replace hA1 := hA1.below hc4 hA1.lt;replace hB1 := hB1.below hc4 hB1.lt;have hb4 := lA hb3 (hc4.mono (lB hb3));clear hc4 x4 y4 x5 y5 x6 y6;have x4 : w4.cell? ⟨w.heap.size, 4, none⟩ = some _ := (hA1.cell 4).trans a4;have y4 : w4.cell? ⟨w.heap.size + 1, 4, none⟩ = some _ := (hB1.cell 4).trans b4;have x5 : w4.cell? ⟨w.heap.size, 5, none⟩ = some _ := (hA1.cell 5).trans a5;have y5 : w4.cell? ⟨w.heap.size + 1, 5, none⟩ = some _ := (hB1.cell 5).trans b5;have x6 : w4.cell? ⟨w.heap.size, 6, none⟩ = some _ := (hA1.cell 6).trans a6;have y6 : w4.cell? ⟨w.heap.size + 1, 6, none⟩ = some _ := (hB1.cell 6).trans b6;by_cases he4 : u1 = u2
     ·subst he4;rw [decide_eq_true rfl];by_cases he5 : p1 = p2
      ·subst he5;by_cases he6 : c1 = c2
       ·subst he6;go_wp2_with fail;go_returns;first | exact ⟨rfl, hb4⟩ | exact ⟨true, rfl, hb4, ⟨fun _ => rfl, fun _ => rfl⟩⟩
       ·have hne : Hid (¬ (⟨k1, s1, n1, o1, u1, p1, c1⟩ : PMsg) = ⟨k1, s1, n1, o1, u1, p1, c2⟩) := iD (fun h => he6 (by injection h));have d6 : (c1 == c2) = false := by simpa using he6
        go_wp2_with fail;go_returns;first | exact ⟨rfl, hb4⟩ | exact ⟨false, rfl, hb4, ⟨fun h => absurd h (by simp), fun h => absurd h hne.out⟩⟩
      ·have hne : Hid (¬ (⟨k1, s1, n1, o1, u1, p1, c1⟩ : PMsg) = ⟨k1, s1, n1, o1, u1, p2, c2⟩) := iD (fun h => he5 (by injection h));have d5 : (p1 == p2) = false := by simpa using he5
       go_wp2_with fail;go_returns;first | exact ⟨rfl, hb4⟩ | exact ⟨false, rfl, hb4, ⟨fun h => absurd h (by simp), fun h => absurd h hne.out⟩⟩
     ·have hne : Hid (¬ (⟨k1, s1, n1, o1, u1, p1, c1⟩ : PMsg) = ⟨k1, s1, n1, o1, u2, p2, c2⟩) := iD (fun h => he4 (by injection h));rw [decide_eq_false he4];go_wp2_with fail;go_returns;first | exact ⟨rfl, hb4⟩ | exact ⟨false, rfl, hb4, ⟨fun h => absurd h (by simp), fun h => absurd h hne.out⟩⟩
    ·have hne : Hid (¬ (⟨k1, s1, n1, o1, u1, p1, c1⟩ : PMsg) = ⟨k1, s1, n1, o2, u2, p2, c2⟩) := iD (fun h => he3 (by injection h));rw [decide_eq_false he3];go_wp2_with fail;go_returns;first | exact ⟨rfl, hb3⟩ | exact ⟨false, rfl, hb3, ⟨fun h => absurd h (by simp), fun h => absurd h hne.out⟩⟩
   ·have hne : Hid (¬ (⟨k1, s1, n1, o1, u1, p1, c1⟩ : PMsg) = ⟨k1, s1, n2, o2, u2, p2, c2⟩) := iD (fun h => he2 (by injection h));have d2 : (n1 == n2) = false := by simpa using he2
    go_wp2_with fail;go_returns;first | exact ⟨rfl, hb1⟩ | exact ⟨false, rfl, hb1, ⟨fun h => absurd h (by simp), fun h => absurd h hne.out⟩⟩
  ·have hne : Hid (¬ (⟨k1, s1, n1, o1, u1, p1, c1⟩ : PMsg) = ⟨k1, s2, n2, o2, u2, p2, c2⟩) := iD (fun h => he1 (by injection h));have d1 : (s1 == s2) = false := by simpa using he1
   go_wp2_with fail;go_returns;first | exact ⟨rfl, hb1⟩ | exact ⟨false, rfl, hb1, ⟨fun h => absurd h (by simp), fun h => absurd h hne.out⟩⟩
 ·have hne : Hid (¬ (⟨k1, s1, n1, o1, u1, p1, c1⟩ : PMsg) = ⟨k2, s2, n2, o2, u2, p2, c2⟩) := iD (fun h => he0 (by injection h));have d0 : (k1 == k2) = false := by simpa using he0
  go_wp2_with fail;go_returns;first | exact ⟨rfl, hb1⟩ | exact ⟨false, rfl, hb1, ⟨fun h => absurd h (by simp), fun h => absurd h hne.out⟩⟩
end Go.Proofs.YtefjlobdifjogaaGreatDoor
