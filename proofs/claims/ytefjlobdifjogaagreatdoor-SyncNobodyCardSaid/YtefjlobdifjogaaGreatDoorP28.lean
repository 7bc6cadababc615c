import Derived.Test.YtefjlobdifjogaaGreatDoorP25
import Derived.Test.YtefjlobdifjogaaGreatDoorP27
open Go.World renaming alloc → lA
namespace Go.Proofs.YtefjlobdifjogaaGreatDoor
set_option maxRecDepth 100000
set_option maxHeartbeats 16000000
open Go.Lib renaming hid → iD
open Go.Proofs.Tryz
open Go.RowKit
theorem synobody_any(s:Str)(m:PMsg)(o n:Value)(x:Int)(w:World)(hM:MsgAt w m o n)(hK:Zm w) :
  Calls Tryz.prog 4 #[.string ⟨s.toArray⟩,.agg (Zx m o n).toArray,.int .i64 x] w fun e w'=>e=.returned (.bool true)/\Below w.heap.size w w':=by
 have hwr:=iD (fun W hb=>Zbh hM W hb hK);have hal:=iD (fun W (hb:Below w.heap.size w W)=>Zb8 W (keys_below hK hb));have hcz:=iD Zmp;have hcn:=iD Zb9;have hsay:=iD Zmq;have hend:=iD Zba;have hhear:=iD Zmr;have hnf:=iD Zmw;have hnp:=iD Zmx;have hsv:=iD (fun v (t:Str) W (hl:t.length<=140737488355328) (hb:Below w.heap.size w W) hm=>Zmy v t W hl hm (keys_below hK hb));have hrz:=iD Zmt;have hrn:=iD Zms;have hms:(Tryz.prog.info? 25).map (·.size)=some (Zx m o n).length:=Xf m o n;generalize hW1:w.alloc (.cells (Zx m o n).toArray 25)=w1;have hb1:Below w.heap.size w w1:=by rw[<-hW1];exact bL
 have hM1:Blk w1 w.heap.size 25 (Zx m o n):=by rw[<-hW1];exact Blk.new_at rfl
 obtain⟨ML,hML⟩:∃ ML,ML=Zx m o n:=⟨_,rfl⟩;rw[<-hML] at hW1 hM1 hms hwr ⊢;clear hM hK;replace hms:=iD hms;replace hML:=iD hML;go_enter func4,ntmps4;go_upto_region 1 with fail;clear hW1;replace hM1:=iD hM1;replace hb1:=iD hb1;go_wp2_with (first
  | (refine Zy rfl 25 (.tmp 4) rfl w.heap.size rfl 25 ML hM1.out _ underlying25 rfl hms.out ?_;go_frame)
  | fail)
 refine (hwr.out w1 hb1.out).mono ?_;rintro e w2 ⟨t,er,rfl,_,htl,hb12⟩;have hM2:=hM1.out.below hb12 hM1.out.lt;have hb2:=hb1.out.trans (hb12.mono hb1.out.size);clear hM1 hb1 hb12 hwr;replace hM2:=iD hM2;replace hb2:=iD hb2;go_upto_region 3 with fail;generalize hW3:lA (lA w2 _) _=w3;have hC3:Blk w3 w2.heap.size 34 cliZ:=by rw[<-hW3];exact Blk.alloc (Blk.new_at rfl) _
 have hS3:Blk w3 (w2.heap.size+1) 30 [.pointer none,.pointer (some ⟨w2.heap.size,0,none⟩)]:=by rw[<-hW3];exact Blk.new_at (by simp)
 have hb23:Below w2.heap.size w2 w3:=by rw[<-hW3];exact bL.alloc (by simp) _
 have hM3:=hM2.out.below hb23 hM2.out.lt;have hb3:=hb2.out.trans (hb23.mono hb2.out.size);clear hW3 hb23 hM2 hb2;replace hM3:=iD hM3;replace hC3:=iD hC3;replace hS3:=iD hS3;replace hb3:=iD hb3;go_loopw [30] (fun i wr=>∃ k:Nat,k<=2/\i=.int .i64 k/\wr=w3) (fun i _=>2 - (intOf i).toNat)
 case atStart=>exact⟨0,by omega,rfl,rfl⟩
 case round =>
  obtain⟨k,hk,rfl,rfl⟩:=hrel;obtain rfl | rfl | rfl:k=0 ∨ k=1 ∨ k=2:=by omega
  ·have s0:=hS3.out.cell 0;go_wp2_with fail;refine (hend.out _ _ (hcn.out _)).mono ?_;rintro e wa ⟨rfl,rfl⟩;go_wp2_with fail;refine (hsay.out _ _ (hcn.out _)).mono ?_;rintro e wb ⟨rfl,rfl⟩;go_wp2_with fail;refine (hhear.out _ _ _ (hcn.out _)).mono ?_;rintro e wd ⟨rfl,rfl⟩;go_wp2_with fail;refine (hhear.out _ _ _ (hcn.out _)).mono ?_;rintro e we ⟨rfl,rfl⟩;clear s0;go_wp2_with fail;go_roundw
   case rel=>exact⟨1,by omega,rfl,trivial⟩
   case measure=>simp[intOf]
  ·have s1:=hS3.out.cell 1;go_wp2_with fail;refine (hend.out _ _ (hcz.out _ _ hC3.out)).mono ?_;rintro e wa ⟨rfl,rfl⟩;go_wp2_with fail;refine (hsay.out _ _ (hcz.out _ _ hC3.out)).mono ?_;rintro e wb ⟨rfl,rfl⟩;go_wp2_with fail;refine (hhear.out _ _ _ (hcz.out _ _ hC3.out)).mono ?_;rintro e wd ⟨rfl,rfl⟩;go_wp2_with fail;refine (hhear.out _ _ _ (hcz.out _ _ hC3.out)).mono ?_;rintro e we ⟨rfl,rfl⟩;clear s1;go_wp2_with fail;go_roundw
   case rel=>exact⟨2,by omega,rfl,trivial⟩
   case measure=>simp[intOf]
  ·go_upto_region 10 with fail;generalize hW5:lA (lA wr _) _=w5;have hR5:Blk w5 wr.heap.size 47 repZ:=by rw[<-hW5];exact Blk.alloc (Blk.new_at rfl) _
   have hS5:Blk w5 (wr.heap.size+1) 31 [.pointer none,.pointer (some ⟨wr.heap.size,0,none⟩)]:=by rw[<-hW5];exact Blk.new_at (by simp)
   have hb35:Below wr.heap.size wr w5:=by rw[<-hW5];exact bL.alloc (by simp) _
   have hM5:=hM3.out.below hb35 hM3.out.lt;have hb5:=hb3.out.trans (hb35.mono hb3.out.size);clear hW5 hb35 hM3 hb3 hC3 hS3 hcz hcn hsay hend hhear;replace hM5:=iD hM5;replace hR5:=iD hR5;replace hS5:=iD hS5;replace hb5:=iD hb5;go_loopw [64] (fun i wx=>∃ k:Nat,k<=2/\i=.int .i64 k/\Below w5.heap.size w5 wx) (fun i _=>2 - (intOf i).toNat)
   case atStart=>exact⟨0,by omega,rfl,Below.refl _ _⟩
   case round =>
   obtain⟨k,hk,rfl,hbw5⟩:=hrel;have hMw:=iD (hM5.out.below hbw5 hM5.out.lt);have hRw:=iD (hR5.out.below hbw5 hR5.out.lt);have hSw:=iD (hS5.out.below hbw5 hS5.out.lt);have hbw:=iD (hb5.out.trans (hbw5.mono hb5.out.size));replace hbw5:=iD hbw5;clear hM5 hR5 hS5;obtain rfl | rfl | rfl:k=0 ∨ k=1 ∨ k=2:=by omega
   ·have hx:=(hMw.out.cell 2).trans (by rw[hML.out];rfl:ML[2]?=some (.string ⟨m.name.toArray⟩));have sk:=hSw.out.cell 0;go_wp2_with fail;refine (hsv.out _ _ wr (by omega) hbw.out (fun W _=>hrn.out W)).mono ?_;rintro e wa ⟨rfl,hba⟩;have hMa:=hMw.out.below hba hMw.out.lt;have hRa:=hRw.out.below hba hRw.out.lt;have hbx:=hbw5.out.trans (hba.mono hbw5.out.size);have hxa:=(hMa.cell 2).trans (by rw[hML.out];rfl:ML[2]?=some (.string ⟨m.name.toArray⟩));clear hx sk hba;replace hRa:=iD hRa;replace hbx:=iD hbx;clear hMa;go_wp2_with fail;refine (hnf.out _ _ _ _ (hrn.out _)).mono ?_;rintro e wb ⟨rfl,rfl⟩;go_wp2_with fail;refine (hnp.out _ _ _ _ (hrn.out _)).mono ?_;rintro e wd ⟨rfl,rfl⟩;clear hxa;go_wp2_with fail;refine⟨?_,?_⟩
    ·repeat apply Exists.intro
     exact⟨⟨1,by omega,rfl,hbx.out⟩,rfl⟩
    ·simp[intOf]
   ·have hx:=(hMw.out.cell 2).trans (by rw[hML.out];rfl:ML[2]?=some (.string ⟨m.name.toArray⟩));have sk:=hSw.out.cell 1;go_wp2_with fail;refine (hsv.out _ _ wr (by omega) hbw.out (fun W hb=>hrz.out _ W (hRw.out.below hb hRw.out.lt))).mono ?_;rintro e wa ⟨rfl,hba⟩;have hMa:=hMw.out.below hba hMw.out.lt;have hRa:=hRw.out.below hba hRw.out.lt;have hbx:=hbw5.out.trans (hba.mono hbw5.out.size);have hxa:=(hMa.cell 2).trans (by rw[hML.out];rfl:ML[2]?=some (.string ⟨m.name.toArray⟩));clear hx sk hba;replace hRa:=iD hRa;replace hbx:=iD hbx;clear hMa;go_wp2_with fail;refine (hnf.out _ _ _ _ (hrz.out _ _ hRa.out)).mono ?_;rintro e wb ⟨rfl,rfl⟩;go_wp2_with fail;refine (hnp.out _ _ _ _ (hrz.out _ _ hRa.out)).mono ?_;rintro e wd ⟨rfl,rfl⟩;clear hxa;go_wp2_with fail;refine⟨?_,?_⟩
    ·repeat apply Exists.intro
     exact⟨⟨2,by omega,rfl,hbx.out⟩,rfl⟩
    ·simp[intOf]
   ·go_wp2_with fail;refine (hal.out wr hbw.out).mono ?_;rintro e w7 ⟨rfl,hb7⟩;have hb8:=iD (hbw.out.trans (hb7.mono hbw.out.size));clear hb7;go_wp2_with fail;go_returns;exact⟨rfl,hb8.out⟩
end Go.Proofs.YtefjlobdifjogaaGreatDoor
