import Derived.Test.YtefjlobdifjogaaGreatDoorP24
import Derived.Test.YtefjlobdifjogaaGreatDoorP26
open Go renaming wpQuiet_nil → lC
open Go.Builtin renaming clear_ → lM
open Go.DataW renaming trod → lB, trod_int → lE, trod_string → lH, trod_struct → lS
open Go.Proofs.Tryz renaming prog → lA
open Go.RowKit.Below renaming refl → lD
open Go.Value renaming ownBlock → lG, oneCell' → lN
open Go.World renaming alloc → lF, setCell → lL
open List renaming length_take → lJ, length_drop → lO, mem_cons → lP, map_cons → lQ, map_nil → lR
open Nat renaming le_refl → lI, le_trans → lK
namespace Go.Proofs.YtefjlobdifjogaaGreatDoor
section
set_option maxRecDepth 100000
set_option maxHeartbeats 8000000
open Go.Lib renaming hid → iD
open Go.Proofs.Tryz
open Go.RowKit
def wdL(d0 r0:Value)(a0:Str)(d1 r1:Value)(a1:Str)(fl c:Value)(n:Int):List Value:=[d0,r0,.string ⟨a0.toArray⟩,d1,r1,.string ⟨a1.toArray⟩,fl,c,.int .i64 n]
abbrev wdZ:List Value:=[.pointer none,.pointer none,.string ⟨#[]⟩,.pointer none,.pointer none,.string ⟨#[]⟩,.slice none 0 0,.pointer none,.int .i64 0]
def Xi(v:Value)(w:World):Prop:=Calls lA 69 #[v] w fun e w'=>e=.returned (.bool false)/\w'=w
theorem Zn8(w:World):Xi (.pointer none) w:=by
 unfold Xi;go_enter func69,ntmps69;go_wp2_with fail;go_returns;exact⟨rfl,rfl⟩
theorem Zn9(g:Nat)(w:World)(h0:w.cell? ⟨g,0,none⟩=some (.pointer none)):Xi (.pointer (some ⟨g,0,none⟩)) w:=by
 unfold Xi;go_enter func69,ntmps69;go_wp2_with fail;go_returns;exact⟨rfl,rfl⟩
theorem Z0x(g:Nat)(w:World)(ad:Addr)(h0:w.cell? ⟨g,0,none⟩=some (.pointer (some ad))):Calls lA 69 #[.pointer (some ⟨g,0,none⟩)] w fun e w'=>e=.returned (.bool true)/\w'=w:=by
 go_enter func69,ntmps69;go_wp2_with fail;go_returns;exact⟨rfl,rfl⟩
theorem Zbi(v:Value)(i:Int)(w:World)(hm:Xi v w):Calls lA 23 #[v,.int .i64 i] w fun e w'=>e=.returned (.pointer none)/\w'=w:=by
 unfold Xi at hm;replace hm:=iD hm;go_enter func23,ntmps23;go_wp2_with fail;refine hm.out.mono ?_;rintro e w1 ⟨rfl,hw1⟩;rw[hw1];clear hw1 w1;go_wp2_with fail;go_returns;exact⟨rfl,rfl⟩
theorem Zna(v:Value)(i n:Int)(w:World)(hm:Xi v w):Calls lA 21 #[v,.int .i64 i,.int .i64 n] w fun e w'=>e=.returned (.tuple #[])/\w'=w:=by
 replace hm:=Zbi v i w hm;replace hm:=iD hm;go_enter func21,ntmps21;go_wp2_with fail;refine hm.out.mono ?_;rintro e w1 ⟨rfl,hw1⟩;rw[hw1];clear hw1 w1;go_wp2_with fail;go_returns;exact⟨rfl,rfl⟩
theorem Znb(v:Value)  (w:World)(hm:Xi v w):Calls lA 22 #[v] w fun e w'=>e=.returned (.tuple #[.bool false,.int .i64 0])/\w'=w:=by
 unfold Xi at hm;replace hm:=iD hm;go_enter func22,ntmps22;go_wp2_with fail;refine hm.out.mono ?_;rintro e w1 ⟨rfl,hw1⟩;rw[hw1];clear hw1 w1;go_wp2_with fail;go_returns;exact⟨rfl,rfl⟩
theorem Znc(v:Value)  (w:World)(hm:Xi v w):Calls lA 24 #[v] w fun e w'=>e=.returned (.slice none 0 0)/\w'=w:=by
 unfold Xi at hm;replace hm:=iD hm;go_enter func24,ntmps24;go_wp2_with fail;refine hm.out.mono ?_;rintro e w1 ⟨rfl,hw1⟩;rw[hw1];clear hw1 w1;go_wp2_with fail;go_returns;exact⟨rfl,rfl⟩
theorem Zbj(v:Value)(f:Value)(s:ByteArray)(w:World)(hm:Xi v w):Calls lA 150 #[v,f,.string s] w fun e w'=>e=.returned (.int .i64 2)/\w'=w:=by
 unfold Xi at hm;replace hm:=iD hm;go_enter func150,ntmps150;go_wp2_with fail;refine hm.out.mono ?_;rintro e w1 ⟨rfl,hw1⟩;rw[hw1];clear hw1 w1;go_wp2_with fail;go_returns;exact⟨rfl,rfl⟩
theorem Znd(v:Value)(s:ByteArray)(w:World)(hm:Xi v w):Calls lA 71 #[v,.string s] w fun e w'=>e=.returned (.int .i64 2)/\w'=w:=by
 replace hm:=Zbj v (.func (.func 17) #[] #[]) s w hm;replace hm:=iD hm;go_enter func71,ntmps71;go_wp2_with fail;refine hm.out.mono ?_;rintro e w1 ⟨rfl,hw1⟩;rw[hw1];clear hw1 w1;go_wp2_with fail;go_returns;exact⟨rfl,rfl⟩
theorem Zne(v:Value)(s:ByteArray)(w:World)(hm:Xi v w):Calls lA 72 #[v,.string s] w fun e w'=>e=.returned (.int .i64 2)/\w'=w:=by
 replace hm:=Zbj v (.func (.func 18) #[] #[]) s w hm;replace hm:=iD hm;go_enter func72,ntmps72;go_wp2_with fail;refine hm.out.mono ?_;rintro e w1 ⟨rfl,hw1⟩;rw[hw1];clear hw1 w1;go_wp2_with fail;go_returns;exact⟨rfl,rfl⟩
theorem Znf(v:Value)  (w:World)(hm:Xi v w):Calls lA 73 #[v] w fun e w'=>e=.returned (.int .i64 2)/\w'=w:=by
 unfold Xi at hm;replace hm:=iD hm;go_enter func73,ntmps73;go_wp2_with fail;refine hm.out.mono ?_;rintro e w1 ⟨rfl,hw1⟩;rw[hw1];clear hw1 w1;go_wp2_with fail;go_returns;exact⟨rfl,rfl⟩
theorem Z2y(v:Value)(i:Int)(f:Value)(w:World)(hm:Xi v w):Calls lA 151 #[v,.int .i64 i,f] w fun e w'=>e=.returned (.int .i64 2)/\w'=w:=by
 unfold Xi at hm;replace hm:=iD hm;go_enter func151,ntmps151;go_wp2_with fail;refine hm.out.mono ?_;rintro e w1 ⟨rfl,hw1⟩;rw[hw1];clear hw1 w1;go_wp2_with fail;go_returns;exact⟨rfl,rfl⟩
theorem Zng(v:Value)(i:Int)(f:Value)(w:World)(hm:Xi v w):Calls lA 78 #[v,.int .i64 i,f] w fun e w'=>e=.returned (.int .i64 2)/\w'=w:=by
 unfold Xi at hm;replace hm:=iD hm;go_enter func78,ntmps78;go_wp2_with fail;refine hm.out.mono ?_;rintro e w1 ⟨rfl,hw1⟩;rw[hw1];clear hw1 w1;go_wp2_with fail;go_returns;exact⟨rfl,rfl⟩
theorem Znh(p:Option Addr)(i:Int)(w:World)(hm:∀ W,Below w.heap.size w W->Xi (.pointer p) W):Calls lA 74 #[.pointer p,.int .i64 i] w fun e w'=>e=.returned (.int .i64 2)/\Below w.heap.size w w':=by
 have hw:=iD (fun W f (hb:Below w.heap.size w W)=>Z2y (.pointer p) i f W (hm W hb));clear hm;go_enter func74,ntmps74;go_wp2_with fail;refine (hw.out _ _ (by go_grown)).mono ?_;rintro e wz ⟨rfl,hwz⟩;rw[hwz];clear hwz wz;go_wp2_with fail;go_returns;exact⟨rfl,by go_grown⟩
theorem Zni(p:Option Addr)(i:Int)(w:World)(hm:∀ W,Below w.heap.size w W->Xi (.pointer p) W):Calls lA 75 #[.pointer p,.int .i64 i] w fun e w'=>e=.returned (.int .i64 2)/\Below w.heap.size w w':=by
 have hw:=iD (fun W f (hb:Below w.heap.size w W)=>Z2y (.pointer p) i f W (hm W hb));clear hm;go_enter func75,ntmps75;go_wp2_with fail;refine (hw.out _ _ (by go_grown)).mono ?_;rintro e wz ⟨rfl,hwz⟩;rw[hwz];clear hwz wz;go_wp2_with fail;go_returns;exact⟨rfl,by go_grown⟩
theorem Znj(p:Option Addr)(i:Int)(w:World)(hm:∀ W,Below w.heap.size w W->Xi (.pointer p) W):Calls lA 76 #[.pointer p,.int .i64 i] w fun e w'=>e=.returned (.int .i64 2)/\Below w.heap.size w w':=by
 have hw:=iD (fun W f (hb:Below w.heap.size w W)=>Z2y (.pointer p) i f W (hm W hb));clear hm;go_enter func76,ntmps76;go_wp2_with fail;refine (hw.out _ _ (by go_grown)).mono ?_;rintro e wz ⟨rfl,hwz⟩;rw[hwz];clear hwz wz;go_wp2_with fail;go_returns;exact⟨rfl,by go_grown⟩
theorem Znk(p:Option Addr)(i x:Int)(c:UInt8)(w:World)(hm:∀ W,Below w.heap.size w W->Xi (.pointer p) W):Calls lA 77 #[.pointer p,.int .i64 i,.int .i64 x,B c] w fun e w'=>e=.returned (.int .i64 2)/\Below w.heap.size w w':=by
 have hw:=iD (fun W f (hb:Below w.heap.size w W)=>Z2y (.pointer p) i f W (hm W hb));clear hm;go_enter func77,ntmps77;go_wp2_with fail;refine (hw.out _ _ (by go_grown)).mono ?_;rintro e wz ⟨rfl,hwz⟩;rw[hwz];clear hwz wz;go_wp2_with fail;go_returns;exact⟨rfl,by go_grown⟩
def Qd(k sd n x:Int)(nm:Str)(c:UInt8)(ck:Int)(ca cb ct:Str)(ch:Value):List Value:=[.int .i64 k,.int .i64 sd,.int .i64 n,.int .i64 x,.string ⟨nm.toArray⟩,B c,.int .i64 ck,.string ⟨ca.toArray⟩,.string ⟨cb.toArray⟩,.string ⟨ct.toArray⟩,ch]
theorem Znl(p:Option Addr)(k:Nat)(hk:1<=k)(hk8:k<=8)(sd n x:Int)(nm:Str)(c:UInt8)(ck:Int)(ca cb ct:Str)(ch:Value)(w:World)(hm:∀ W,Below w.heap.size w W->Xi (.pointer p) W) :
  Calls lA 25 #[.pointer p,.agg (Qd k sd n x nm c ck ca cb ct ch).toArray] w fun e w'=>e=.returned (.int .i64 2)/\Below w.heap.size w w':=by
 generalize hW1:w.alloc (.cells (Qd k sd n x nm c ck ca cb ct ch).toArray 66)=w1;have hB1:Blk w1 w.heap.size 66 (Qd k sd n x nm c ck ca cb ct ch):=by rw[<-hW1];exact Blk.new_at rfl
 have hb1:Below w.heap.size w w1:=by rw[<-hW1];exact bL
 have hm1:Hid (∀ W,Below w1.heap.size w1 W->Xi (.pointer p) W):=iD (fun W hb=>hm W (hb1.trans (hb.mono hb1.size)));have c0:w1.cell? ⟨w.heap.size,0,none⟩=some (.int .i64 (k:Int)):=hB1.cell 0;have c1:w1.cell? ⟨w.heap.size,1,none⟩=some (.int .i64 sd):=hB1.cell 1;have c2:w1.cell? ⟨w.heap.size,2,none⟩=some (.int .i64 n):=hB1.cell 2;have c3:w1.cell? ⟨w.heap.size,3,none⟩=some (.int .i64 x):=hB1.cell 3;have c4:w1.cell? ⟨w.heap.size,4,none⟩=some (.string ⟨nm.toArray⟩):=hB1.cell 4;have c5:w1.cell? ⟨w.heap.size,5,none⟩=some (B c):=hB1.cell 5;have c10:w1.cell? ⟨w.heap.size,10,none⟩=some ch:=hB1.cell 10;obtain⟨AL,hAL⟩:∃ AL,AL=Qd k sd n x nm c ck ca cb ct ch:=⟨_,rfl⟩;rw[<-hAL] at hW1 hB1 ⊢;clear hAL hm;replace hb1:=iD hb1;have hh1:=iD (fun s=>Znd (.pointer p) s w1 (hm1.out _ (lD _ _)));have hh2:=iD (fun s=>Zne (.pointer p) s w1 (hm1.out _ (lD _ _)));have hh3:=iD (Znf (.pointer p) w1 (hm1.out _ (lD _ _)));have hh4:=iD (fun i=>Znh p i w1 hm1.out);have hh5:=iD (fun i=>Zni p i w1 hm1.out);have hh6:=iD (fun i=>Znj p i w1 hm1.out);have hh7:=iD (fun i x c=>Znk p i x c w1 hm1.out);have hh8:=iD (fun i f=>Zng (.pointer p) i f w1 (hm1.out _ (lD _ _)));clear hm1;go_enter func25,ntmps25;go_upto_region 1 with fail;clear hW1 hB1;obtain rfl | rfl | rfl | rfl | rfl | rfl | rfl | rfl:k=1 ∨ k=2 ∨ k=3 ∨ k=4 ∨ k=5 ∨ k=6 ∨ k=7 ∨ k=8:=by omega
 ·go_wp2_with fail;refine (hh1.out _).mono ?_;rintro e wz ⟨rfl,hwz⟩;rw[hwz];clear hwz wz;go_wp2_with fail;go_returns;exact⟨rfl,hb1.out⟩
 ·go_wp2_with fail;refine (hh2.out _).mono ?_;rintro e wz ⟨rfl,hwz⟩;rw[hwz];clear hwz wz;go_wp2_with fail;go_returns;exact⟨rfl,hb1.out⟩
 ·go_wp2_with fail;refine (hh3.out).mono ?_;rintro e wz ⟨rfl,hwz⟩;rw[hwz];clear hwz wz;go_wp2_with fail;go_returns;exact⟨rfl,hb1.out⟩
 ·go_wp2_with fail;refine (hh4.out _).mono ?_;rintro e wz ⟨rfl,hwz⟩;replace hwz:=iD (hb1.out.trans (hwz.mono hb1.out.size));go_wp2_with fail;go_returns;exact⟨rfl,hwz.out⟩
 ·go_wp2_with fail;refine (hh5.out _).mono ?_;rintro e wz ⟨rfl,hwz⟩;replace hwz:=iD (hb1.out.trans (hwz.mono hb1.out.size));go_wp2_with fail;go_returns;exact⟨rfl,hwz.out⟩
 ·go_wp2_with fail;refine (hh6.out _).mono ?_;rintro e wz ⟨rfl,hwz⟩;replace hwz:=iD (hb1.out.trans (hwz.mono hb1.out.size));go_wp2_with fail;go_returns;exact⟨rfl,hwz.out⟩
 ·go_wp2_with fail;refine (hh7.out _ _ _).mono ?_;rintro e wz ⟨rfl,hwz⟩;replace hwz:=iD (hb1.out.trans (hwz.mono hb1.out.size));go_wp2_with fail;go_returns;exact⟨rfl,hwz.out⟩
 ·go_wp2_with fail;refine (hh8.out _ _).mono ?_;rintro e wz ⟨rfl,hwz⟩;rw[hwz];clear hwz wz;go_wp2_with fail;go_returns;exact⟨rfl,hb1.out⟩
end
section
set_option maxRecDepth 100000
set_option maxHeartbeats 16000000
open Go.Lib renaming hid → iD
open Go.Proofs.Tryz
open Go.RowKit
theorem Znm:(lA.info? 66).map (·.size)=some 11:=by kernel_rfl
theorem actSz(k sd n x:Int)(nm:Str)(c:UInt8)(ck:Int)(ca cb ct:Str)(ch:Value):(lA.info? 66).map (·.size)=some (Qd k sd n x nm c ck ca cb ct ch).length:=by
 exact Znm
def Uy(w0:World)(gA gZ gS:Nat)(sd n x:Int)(nm:Str)(c:UInt8)(ck:Int)(ca cb ct:Str)(ch:Value)(w:World):Prop :=
 (∃ k:Int,Blk w gA 66 (Qd k sd n x nm c ck ca cb ct ch))/\Blk w gZ 73 wdZ/\Blk w gS 67 [.pointer none,.pointer (some ⟨gZ,0,none⟩)]/\Below w0.heap.size w0 w
theorem Uy.below{w0 w w':World}{gA gZ gS:Nat}{sd n x:Int}{nm:Str}{c:UInt8}{ck:Int}{ca cb ct:Str}{ch:Value}(h:Uy w0 gA gZ gS sd n x nm c ck ca cb ct ch w)(hb:Below w.heap.size w w'):Uy w0 gA gZ gS sd n x nm c ck ca cb ct ch w':=by
 obtain⟨⟨k,h1⟩,h2,h3,h4⟩:=h;exact⟨⟨k,h1.below hb h1.lt⟩,h2.below hb h2.lt,h3.below hb h3.lt,h4.trans (hb.mono h4.size)⟩
theorem worldnobody_any(k0 sd n x:Int)(nm:Str)(c:UInt8)(ck:Int)(ca cb ct:Str)(ch:Value)(w:World)(hal:∀ W,Below w.heap.size w W->Calls lA 26 #[] W fun e w'=>e=.returned (.bool true)/\Below W.heap.size W w') :
  Calls lA 7 #[.agg (Qd k0 sd n x nm c ck ca cb ct ch).toArray] w fun e w'=>e=.returned (.bool true)/\Below w.heap.size w w':=by
 replace hal:=iD hal;obtain⟨AL,hAL⟩:∃ AL,AL=Qd k0 sd n x nm c ck ca cb ct ch:=⟨_,rfl⟩;rw[<-hAL];replace hAL:=iD hAL;obtain⟨gA,hgA⟩:∃ gA,gA=w.heap.size:=⟨_,rfl⟩;go_enter func7,ntmps7;go_upto_region 2 with fail;generalize hW1:lF (lF (lF w _) _) _=w1;have hN1:Uy w w.heap.size (w.heap.size+1) (w.heap.size+1+1) sd n x nm c ck ca cb ct ch w1:=by
  rw[<-hW1];refine⟨⟨k0,?_⟩,?_,Blk.new_at (by simp),by go_grown⟩
  ·rw[<-hAL.out];exact Blk.alloc (Blk.alloc (Blk.new_at rfl) _) _
  ·exact Blk.alloc (Blk.new_at (by simp)) _
 rw[<-hgA] at hN1 ⊢;clear hW1 hAL;replace hgA:=iD hgA;replace hN1:=iD hN1;go_loopw [12] (fun i wr=>∃ k:Nat,k<=2/\i=.int .i64 k/\Uy w gA (gA+1) (gA+1+1) sd n x nm c ck ca cb ct ch wr) (fun i _=>2 - (intOf i).toNat)
 case atStart=>exact⟨0,by omega,rfl,hN1.out⟩
 case round =>
 obtain⟨k,hk,rfl,hN⟩:=hrel;clear hN1;obtain⟨⟨kk,hA⟩,hZ,hS,hb⟩:=hN;by_cases hk2:k<2
 ·obtain⟨p,hsk,hoff⟩:∃ p:Option Addr,wr.cell? ⟨gA+1+1,k,none⟩=some (.pointer p)/\∀ W,Blk W (gA+1) 73 wdZ->Xi (.pointer p) W:=by
   obtain rfl | rfl:k=0 ∨ k=1:=by omega
   ·exact⟨none,hS.cell 0,fun W _=>Zn8 W⟩
   ·exact⟨some ⟨gA+1,0,none⟩,hS.cell 1,fun W h=>Zn9 _ W (h.cell 0)⟩
  have i1:(0:Int)<=(k:Int):=by omega
  have i2:(k:Int)<2:=by omega
  have c1:wr.cell? ⟨gA,1,none⟩=some (.int .i64 sd):=hA.cell 1;have c2:wr.cell? ⟨gA,2,none⟩=some (.int .i64 n):=hA.cell 2;have o1:=iD (Zna (.pointer p) sd n wr (hoff wr hZ));have o2:=iD (Znb (.pointer p) wr (hoff wr hZ));have o3:=iD (Zbi (.pointer p) sd wr (hoff wr hZ));have o4:=iD (Znc (.pointer p) wr (hoff wr hZ));have hNr:Hid (Uy w gA (gA+1) (gA+1+1) sd n x nm c ck ca cb ct ch wr):=iD ⟨⟨kk,hA⟩,hZ,hS,hb⟩;replace hoff:=iD hoff;clear hA hZ hS hb;go_wp2_with fail;refine o1.out.mono ?_;rintro e wz ⟨rfl,hwz⟩;rw[hwz];clear hwz wz;go_wp2_with fail;refine o2.out.mono ?_;rintro e wz ⟨rfl,hwz⟩;rw[hwz];clear hwz wz;go_wp2_with fail;refine o3.out.mono ?_;rintro e wz ⟨rfl,hwz⟩;rw[hwz];clear hwz wz;go_wp2_with fail;refine o4.out.mono ?_;rintro e wz ⟨rfl,hwz⟩;rw[hwz];clear hwz wz o1 o2 o3 o4 c1 c2 hsk;go_wp2_with fail;go_loopw [7] (fun v wx=>∃ j:Nat,1<=j/\j<=9/\v=.int .i64 j/\Uy w gA (gA+1) (gA+1+1) sd n x nm c ck ca cb ct ch wx) (fun v _=>9 - (intOf v).toNat)
  case atStart=>exact⟨1,by omega,by omega,rfl,hNr.out⟩
  case round =>
  obtain⟨j,hj1,hj9,rfl,hN⟩:=hrel;clear hNr;by_cases hj8:j<=8
  ·have d1:(j:Int)<=8:=by omega
   obtain⟨⟨kk,hA⟩,hZ,hS,hb⟩:=hN;have c0:wr.cell? ⟨gA,0,none⟩=some (.int .i64 kk):=hA.cell 0;have f0:=hA.frozen 0;have hA2:Blk (wr.setCell ⟨gA,0,none⟩ (.int .i64 (j:Int))) gA 66 (Qd j sd n x nm c ck ca cb ct ch):=hA.set_ 0 (.int .i64 (j:Int));have hZ2:=hZ.far (p:=⟨gA,0,none⟩) (hZ.ne_ hA (by decide)) (.int .i64 (j:Int));have hS2:=hS.far (p:=⟨gA,0,none⟩) (hS.ne_ hA (by decide)) (.int .i64 (j:Int));have hb2:Below w.heap.size w (wr.setCell ⟨gA,0,none⟩ (.int .i64 (j:Int))):=hb.setCell (by show w.heap.size<=gA;rw[hgA.out];exact lI _) _;clear hA hZ hS hb;go_upto_region 12 with fail;generalize hW5:lL wr _ _=w5 at hA2 hZ2 hS2 hb2 ⊢;clear hW5 c0 f0;have hN5:Hid (Uy w gA (gA+1) (gA+1+1) sd n x nm c ck ca cb ct ch w5):=iD ⟨⟨_,hA2⟩,hZ2,hS2,hb2⟩;have hdo:=iD (Znl p j hj1 hj8 sd n x nm c ck ca cb ct ch w5 (fun W hb=>hoff.out W (hZ2.below hb hZ2.lt)));replace hA2:=iD hA2;clear hZ2 hS2 hb2;go_wp2_with (first
    | (refine Zy rfl 66 (.tmp 1) rfl gA rfl 66 (Qd j sd n x nm c ck ca cb ct ch) hA2.out _ underlying66 rfl (actSz _ _ _ _ _ _ _ _ _ _ _) ?_;go_frame)
    | fail)
   refine hdo.out.mono ?_;rintro e w6 ⟨rfl,hb56⟩;have hN6:=iD (hN5.out.below hb56);clear hA2 hdo hN5 hb56;go_wp2_with fail;go_roundw
   case rel=>exact⟨j+1,by omega,by omega,by go_num,hN6.out⟩
   case measure=>simp[intOf];omega
  ·obtain rfl:j=9:=by omega
   have hN6:=iD hN;clear hN;go_wp2_with fail;go_roundw
   case rel=>exact⟨k+1,by omega,by go_num,hN6.out⟩
   case measure=>simp[intOf];omega
 ·obtain rfl:k=2:=by omega
  have hal5:=iD (hal.out wr hb);replace hb:=iD hb;clear hA hZ hS;go_wp2_with fail;refine hal5.out.mono ?_;rintro e w6 ⟨rfl,hb56⟩;have hb6:=iD (hb.out.trans (hb56.mono hb.out.size));clear hb56 hb hal5;go_wp2_with fail;go_returns;exact⟨rfl,hb6.out⟩
end
section
set_option maxRecDepth 100000
set_option maxHeartbeats 4000000
open Go.Lib renaming hid → iD
open Go.Proofs.Tryz
open Go.RowKit
abbrev U2:List Value:=[.int .i64 0,.string ⟨#[]⟩]
theorem Gm:(lA.info? 133).map (·.size)=some 2:=by kernel_rfl
theorem Zbk:InfoOf lA 133 (.agg U2.toArray) 2 24:=⟨by kernel_rfl,rfl,by omega⟩
theorem Zbl(n:Int)(s:ByteArray)(w:World):(Instr.buildSlice 71 1 #[(0,.agg #[.int .i64 n,.string s])]).run lA w=.ok (.slice (some ⟨w.heap.size,0,none⟩) 1 1) (w.alloc (.cells #[.int .i64 n,.string s] 133)):=by kernel_rfl
theorem Znn(w:World)(ty:TypeId)(g o c:Nat)(cur:List Value)(hg:Blk w g 133 cur)(hfit:o+2<=cur.length) :
  (lM #[71] ty #[.slice (some ⟨g,o,none⟩) 1 c]).run lA w=.ok (.tuple #[]) (w.setRow g (splice cur o U2).toArray):=by
 have hst:=run_storeCells_at lA g o 133 U2 0 cur.toArray w hg (by simpa[U2] using hfit) (by simp[U2,lN]);simp only[Nat.add_zero] at hst;have hz:(Builtin.zeroCells (Value.agg #[.int .i64 0,.string ⟨#[]⟩]).cells 1).toList=U2:=by kernel_rfl
 simp[lM,run_underlying underlying71,hz,hst,splice]
theorem Z5j{w:World}{base:Nat}{v:Value}{n:Nat}{xs:List Value}(h:w.ownsRow base 133 2 v n xs)(hn:0<n) :
  ∃ g cap cur,v=.slice (some ⟨g,0,none⟩) n cap/\base<=g/\Blk w g 133 cur/\n<=cap/\cap<=maxLen/\cur.length=cap*2/\cur.take (n*2)=xs:=by
 rcases h.2 with ⟨_,h0⟩ | ⟨g,cap,cur,rfl,hb,hg,h1,h2,h3,h4⟩
 ·omega
 ·exact⟨g,cap,cur.toList,rfl,hb,by unfold Blk;simpa using hg,h1,h2,by simpa using h3,h4⟩
theorem Zbm{w:World}{base g cap n:Nat}{cur xs:List Value}(hb:base<=g)(hg:Blk w g 133 cur)(h1:n<=cap)(h2:cap<=maxLen)(h3:cur.length=cap*2)(h4:cur.take (n*2)=xs) :
  w.ownsRow base 133 2 (.slice (some ⟨g,0,none⟩) n cap) n xs :=
 ⟨by rw[<-h4,lJ,h3];omega,.inr ⟨g,cap,cur.toArray,rfl,hb,hg,h1,h2,by simpa using h3,by simpa using h4⟩⟩
def Zno(w:World)(base:Nat)(v:Value)(n:Nat)(xs:List Value)(e:Ending)(w':World):Prop :=
 ∃ v',e=.returned v'/\w'.ownsRow base 133 2 v' n xs/\w.grownBy w' v.ownBlock/\(v'.ownBlock=v.ownBlock ∨ ∀ b,v'.ownBlock=some b->w.heap.size<=b)
theorem Znp:∃ i,lA.info? 133=some i/\i.size=2:=by
 have h:=Gm;cases hq:lA.info? 133 with
 | none=>simp[hq] at h
 | some i=>exact⟨i,rfl,by simpa[hq] using h⟩
theorem Znq(base:Nat)(v:Value)(n i:Nat)(xs:List Value)(w:World)(ho:w.ownsRow base 133 2 v n xs)(hi:i<n)(hn:n<=4398046511104)(h1:∀ u ∈ xs,u.oneCell'=true) :
    Calls lA 228 #[v,.int .i64 i,.int .i64 ((i:Int)+1)] w (Zno w base v (n - 1) (xs.take (i*2)++xs.drop ((i+1)*2))):=by
  obtain⟨g,cap,cur,rfl,hbg,hB,hc1,hc2,hcl,hct⟩:=Z5j ho (by omega);obtain⟨inf,hinf,hinfs⟩:=Znp;have e1:((i+1:Nat):Int)=(i:Int)+1:=rfl;have s1:=fun w=>Z7x (P:=lA) w 71 133 2 underlying71 Gm (some ⟨g,0,none⟩) n cap i (i+1) n (by omega) (by omega) hc1;have s2:=fun w=>Z44 (P:=lA) w 71 133 2 underlying71 Gm (some ⟨g,0,none⟩) n cap i (by omega);have s3:=fun w=>Z12 (P:=lA) w 71 133 2 underlying71 Gm (some ⟨g,0,none⟩) n cap (i+1) (by omega);have s4:=fun w=>Z5m (P:=lA) w 71 133 2 underlying71 Gm (some ⟨g,0,none⟩) (n - 1) cap (n - 1) n (by omega) hc1;have ec:cutA (some ⟨g,0,none⟩) cap (n - 1) 2=some ⟨g,(n - 1)*2,none⟩:=by
    unfold cutA;rw[if_neg (by omega)];simp[Jk]
  rw[ec,show n - (n - 1)=1 by omega] at s4;rw[e1] at s1 s3;have hne:((i:Int) == (i:Int)+1)=false:=by rw[beq_eq_false_iff_ne];omega
  have hn0:0<n:=by omega
  replace s1:=iD s1;replace s2:=iD s2;clear s3;replace s4:=iD s4;have hpre:w.ownsRow base 133 2 (.slice (some ⟨g,0,none⟩) i cap) i (xs.take (i*2)):=Zbm hbg hB (by omega) hc2 hcl (by rw[<-hct,List.take_take];congr 1;omega);have hxl:xs.length=n*2:=ho.1;have hnews:(xs.drop ((i+1)*2)).length=(n - (i+1))*2:=by rw[lO,hxl];omega
  have hsrc:∀ ad,(if cap=i+1 then some (⟨g,0,none⟩:Addr) else some ⟨g,(i+1)*2,none⟩)=some ad->∀ j u,(xs.drop ((i+1)*2))[j]?=some u->w.cell? (ad.add j)=some u:=fun ad had j u hu=>by
    have hj:j<(xs.drop ((i+1)*2)).length:=(List.getElem?_eq_some_iff.1 hu).1;rw[if_neg (by omega)] at had;simp only[Option.some.injEq] at had;subst had;rw[Jk,hB.cell];rw[List.getElem?_drop] at hu;rw[<-hct,List.getElem?_take_of_lt (by omega)] at hu;exact hu
  have hnone:(if cap=i+1 then some (⟨g,0,none⟩:Addr) else some ⟨g,(i+1)*2,none⟩)=none->n - (i+1)=0/\cap - (i+1)=0:=fun h=>by
    split at h <;> cases h
  have hone:Hid (∀ u ∈ xs.drop ((i+1)*2),u.oneCell'=true):=iD (fun u hu=>h1 u (List.mem_of_mem_drop hu));replace hpre:=iD hpre;replace hnews:=iD hnews;replace hsrc:=iD hsrc;replace hnone:=iD hnone;replace hct:=iD hct;replace hcl:=iD hcl;replace hxl:=iD hxl;replace hinf:=iD hinf;replace hinfs:=iD hinfs;have i1:(0:Int)<=(i:Int):=by omega
  clear h1 ec e1;have hs1:=s1.out;have hs4:=s4.out;go_enter func228,ntmps228;go_wp2_with fail;refine Y7 6 (by kernel_rfl) (by kernel_rfl) ?_;simp only[List.take_succ_cons,List.take_zero,List.drop_succ_cons,List.drop_zero];repeat (first
    | (refine Zc (Op.slice 71 (.tmp 20) none (some (.tmp 21)) none) rfl rfl (.slice (some ⟨g,0,none⟩) i cap) (fun w _=>?_) ?_
       · have e0:∀ k:Nat,k=k:=fun _=>rfl
         exact (congrArg (fun r=>Result.andThen r _) (s2.out w))
       go_frame)
    | go_big_quiet_step (fail))
  refine lC ?_;rintro _ ⟨nq,rfl⟩;refine wpList_append_fits_any (w.drewN nq) rfl (.tmp 22) (.tmp 25) 71 rfl base 133 inf 2 underlying71 hinf.out hinfs.out g i cap (xs.take (i*2)) rfl hpre.out (if cap=i+1 then some (⟨g,0,none⟩:Addr) else some ⟨g,(i+1)*2,none⟩) (n - (i+1)) (cap - (i+1)) (xs.drop ((i+1)*2)) rfl hnews.out hnone.out hsrc.out hone.out (by omega) ?_;intro w2 hrow2 hg2;have en:i+(n - (i+1))=n - 1:=by omega
  rw[en] at hrow2 ⊢;generalize (if cap=i+1 then some (⟨g,0,none⟩:Addr) else some ⟨g,(i+1)*2,none⟩)=AA;have hg3:w.grownBy w2 (some g):=⟨hg2.os,hg2.tape,hg2.output,hg2.size,hg2.block⟩;have hrow3:∃ cur2,Blk w2 g 133 cur2/\cur2.length=cap*2/\cur2.take ((n - 1)*2)=xs.take (i*2)++xs.drop ((i+1)*2):=by
    rcases hrow2.2 with ⟨h,_⟩ | ⟨g',cap',cur',h,_,hg,_,_,h3,h4⟩
    · cases h
    · injection h with ha hb hc
      injection ha with ha
      injection ha with ha
      subst ha;subst hc;exact⟨cur'.toList,by unfold Blk;simpa using hg,by simpa using h3,h4⟩
  obtain⟨cur2,hB2,hl2,ht2⟩:=hrow3;have hclr:=fun ty=>Znn w2 ty g ((n - 1)*2) (cap - (n - 1)) cur2 hB2 (by rw[hl2];omega);replace hB2:=iD hB2;replace hl2:=iD hl2;replace ht2:=iD ht2;replace hg3:=iD hg3;clear hrow2 hg2 en hpre hsrc hnone hnews hs1;go_wp2;go_ret;refine⟨_,rfl,?_,?_,.inl rfl⟩
  · refine Zbm hbg (hB2.out.setRow_same _) (by omega) hc2 ?_ ?_
    · have hz:U2.length=2:=rfl
      have:=hl2.out;simp only[splice,List.length_append,lJ,lO,hz];omega
    · have hlt:(cur2.take ((n - 1)*2)).length=(n - 1)*2:=by rw[lJ,hl2.out];omega
      unfold splice;rw[List.take_append_of_le_length (by rw[hlt];exact lI _),List.take_take,Nat.min_self];exact ht2.out
  · exact Zez hg3.out (Z7z _)
end
section
open Go.Lib renaming hid → iD
open Go.Proofs.Tryz
open Go.RowKit
def WPk(b:Nat)(w:World)(i:Nat):Prop:=b<=i/\∃ ty cs,Blk w i ty cs/\(ty=73 ∨ ty=133)
structure Far (b:Nat) (w w':World):Prop where
 os:w'.os=w.os
 tape:w'.tape=w.tape
 output:w'.output=w.output
 size:w.heap.size<=w'.heap.size
 block:∀ i,i<w.heap.size->¬ WPk b w i->w'.heap[i]?=w.heap[i]?
section
variable {b:Nat} {u v w w':World}
theorem Far.ofBelow(h:Below w.heap.size w w'):Far b w w':=⟨h.os,h.tape,h.output,h.size,fun i hi _=>h.block i hi⟩
theorem Far.of{M:List Nat}(ht:Touch M w w')(hM:∀ i ∈ M,WPk b w i ∨ w.heap.size<=i):Far b w w':=⟨ht.os,ht.tape,ht.output,ht.size,fun i hi hn=>ht.block i hi (fun hm=>by
 rcases hM i hm with h | h
 ·exact hn h
 ·omega)⟩
theorem Far.touch(h:Far b w w'):∃ M,Touch M w w'/\∀ i ∈ M,WPk b w i :=
 ⟨(List.range w.heap.size).filter (fun i=>@decide (WPk b w i) (Classical.propDecidable _)),⟨h.os,h.tape,h.output,h.size,fun i hi hn=>h.block i hi (fun hp=>hn (by simp[hi,hp]))⟩,fun i hi=>by simpa using (List.mem_filter.1 hi).2⟩
theorem Far.low(h:Far b w w')(hb:b<=w.heap.size):Below b w w':=⟨h.os,h.tape,h.output,h.size,fun k hk=>h.block k (by omega) (fun hp=>by have:=hp.1;omega)⟩
theorem WPk.not{k:Nat}{t:TypeId}{cs:List Value}(hB:Blk w k t cs)(h1:t ≠ 73)(h2:t ≠ 133):¬ WPk b w k:=fun ⟨_,ty,cs',hB',e⟩=>by
 have h:=hB.unique hB';subst h;rcases e with e | e
 ·exact h1 e
 ·exact h2 e
theorem Far.blk(h:Far b w w'){k:Nat}{t:TypeId}{cs:List Value}(hB:Blk w k t cs)(h1:t ≠ 73)(h2:t ≠ 133):Blk w' k t cs :=
 (h.block k hB.lt (WPk.not hB h1 h2)).trans hB
theorem Far.trans(h:Far b u v)(h':Far b v w):Far b u w :=
 ⟨h'.os.trans h.os,h'.tape.trans h.tape,h'.output.trans h.output,lK h.size h'.size,fun i hi hn=>(h'.block i (Nat.lt_of_lt_of_le hi h.size) (fun ⟨hb,ty,cs,hB,e⟩=>hn ⟨hb,ty,cs,Eq.trans (h.block i hi hn).symm hB,e⟩)).trans (h.block i hi hn)⟩
theorem Zu.far{base:Nat}{x:Value}{T:Tab}(h:Zu w base x T)(hf:Far b w w'):Zu w' base x T:=by
 obtain⟨M,ht,hM⟩:=hf.touch;obtain⟨vs,hl,ho,hh⟩:=h;refine⟨vs,hl,Zj ho ht (fun g hg hm=>?_),fun k b' u' e1 e2=>(hh k b' u' e1 e2).stay (fun i hi hlt=>?_) (fun i hi hlt=>?_)⟩
 ·obtain⟨cs,hB⟩:=Z0b ho g hg;exact WPk.not hB (by decide) (by decide) (hM g hm)
 ·obtain⟨_,cs,hB⟩:=hi;exact hf.block i hlt (WPk.not hB (by decide) (by decide))
 ·obtain⟨h0,cs,hB⟩:=hi;exact⟨h0,cs,hf.blk hB (by decide) (by decide)⟩
end
theorem Zbn(k:Nat)(g:Nat)(ad:Addr)(p:Option Addr)(w:World)(hk:k<2)(h0:w.cell? ⟨g,0,none⟩=some (.pointer (some ad)))(h1:w.cell? ⟨g,k*3+1,none⟩=some (.pointer p)) :
  Calls lA 23 #[.pointer (some ⟨g,0,none⟩),.int .i64 k] w fun e w'=>e=.returned (.pointer p)/\w'=w:=by
 have hm:=iD (Z0x g w ad h0);obtain rfl | rfl:k=0 ∨ k=1:=by omega
 ·replace h1:w.cell? ⟨g,1,none⟩=some (.pointer p):=h1;go_enter func23,ntmps23;go_wp2_with fail;refine hm.out.mono ?_;rintro e w1 ⟨rfl,hw1⟩;rw[hw1];clear hw1 w1;go_wp2_with fail;go_returns;exact⟨rfl,rfl⟩
 ·replace h1:w.cell? ⟨g,4,none⟩=some (.pointer p):=h1;go_enter func23,ntmps23;go_wp2_with fail;refine hm.out.mono ?_;rintro e w1 ⟨rfl,hw1⟩;rw[hw1];clear hw1 w1;go_wp2_with fail;go_returns;exact⟨rfl,rfl⟩
theorem Znr(g:Nat)(ad:Addr)(p:Option Addr)(b:Bool)(er:Int)(w:World)(h0:w.cell? ⟨g,0,none⟩=some (.pointer (some ad)))(h7:w.cell? ⟨g,7,none⟩=some (.pointer p))
  (he:Calls lA 13 #[.pointer p] w fun e w'=>e=.returned (.tuple #[.bool b,.int .i64 er])/\Below w.heap.size w w') :
  Calls lA 22 #[.pointer (some ⟨g,0,none⟩)] w fun e w'=>e=.returned (.tuple #[.bool b,.int .i64 er])/\Below w.heap.size w w':=by
 have hm:=iD (Z0x g w ad h0);replace he:=iD he;go_enter func22,ntmps22;go_wp2_with fail;refine hm.out.mono ?_;rintro e w1 ⟨rfl,hw1⟩;rw[hw1];clear hw1 w1;go_wp2_with fail;refine he.out.mono ?_;rintro e w1 ⟨rfl,hw1⟩;replace hw1:=iD hw1;go_wp2_with fail;go_returns;exact⟨rfl,hw1.out⟩
end
section
set_option maxRecDepth 100000
set_option maxHeartbeats 4000000
open Go.Lib renaming hid → iD
open Go.Proofs.Tryz
open Go.RowKit
theorem Xw{w:World}{g:Nat}{d0 r0 d1 r1 fl c:Value}{a0 a1:Str}{n:Int}(h:Blk w g 73 (wdL d0 r0 a0 d1 r1 a1 fl c n)) :
  w.cell? ⟨g,0,none⟩=some d0/\w.cell? ⟨g,1,none⟩=some r0/\w.cell? ⟨g,4,none⟩=some r1/\w.cell? ⟨g,6,none⟩=some fl/\w.cell? ⟨g,7,none⟩=some c/\w.cell? ⟨g,8,none⟩=some (.int .i64 n) :=
 ⟨h.cell 0,h.cell 1,h.cell 4,h.cell 6,h.cell 7,h.cell 8⟩
theorem Gn{w:World}{b g:Nat}{cs:List Value}(h:Blk w g 73 cs)(hb:b<=g):WPk b w g:=⟨hb,_,_,h,.inl rfl⟩
theorem Zns{w:World}{b n i:Nat}{v:Value}{xs:List Value}(h:w.ownsRow b 133 2 v n xs)(hi:v.ownBlock=some i):WPk b w i:=by
 rcases h.2 with ⟨rfl,_⟩ | ⟨g,cap,cur,rfl,hb,hg,_⟩
 ·cases hi
 ·obtain rfl:g=i:=by simpa[lG] using hi
  exact⟨hb,_,cur.toList,hg,.inr rfl⟩
theorem Zbo(b g:Nat)(d0 r0 d1 r1 fl c:Value)(a0 a1:Str)(n:Int)(xs:List Value)(w:World)(hW:Blk w g 73 (wdL d0 r0 a0 d1 r1 a1 fl c n))(hb:b<=g)(ho:w.ownsRow b 133 2 fl 1 xs)(h1:∀ u ∈ xs,u.oneCell'=true) :
  Calls lA 153 #[.pointer (some ⟨g,0,none⟩),.int .i64 0] w fun e w'=>∃ fl',e=.returned (.tuple #[])/\Blk w' g 73 (wdL d0 r0 a0 d1 r1 a1 fl' c n)/\w'.ownsRow b 133 2 fl' 0 []/\Far b w w'/\∀ i cs,Blk w i 133 cs->some i ≠ fl.ownBlock->Blk w' i 133 cs:=by
 have hd:=Znq b fl 1 0 xs w ho (by omega) (by omega) h1;have hxl:xs.length=2:=ho.1;obtain⟨fb,fc,cur,rfl,hfb,hFB,_⟩:=Z5j ho (by omega);have x6:w.cell? ⟨g,6,none⟩=some (.slice (some ⟨fb,0,none⟩) 1 fc):=(Xw hW).2.2.2.1;rw[show xs.take (0*2)++xs.drop ((0+1)*2)=[] by rw[List.drop_eq_nil_of_le (by omega)];rfl] at hd;replace hd:=iD hd;have hgf:g ≠ fb:=hW.ne_ hFB (by decide);replace hW:=iD hW;clear ho;go_enter func153,ntmps153;go_wp2_with fail;refine hd.out.mono ?_;rintro e w1 ⟨v',rfl,ho1,hg1,_⟩;obtain⟨FA,fc',rfl,_,_⟩:=Za ho1;rw[show (1:Nat) - 1=0 from rfl] at ho1 ⊢;have hW1:=hW.out.grown hg1 (fun e=>hgf (by simpa[lG] using e));have f6:=hW1.frozen 6;have c6:w1.cell? ⟨g,6,none⟩=some (.slice (some ⟨fb,0,none⟩) 1 fc):=hW1.cell 6;have s6:=iD (hW1.set_ 6 (.slice FA 0 fc'));have ht1:Touch [fb,g] w w1:=Touch.grown hg1 (fun b hb=>by simp[lG] at hb;simp[hb]);have hset:Touch [g] w1 (w1.setCell ⟨g,6,none⟩ (.slice FA 0 fc')):=Touch.setCell _ (by simp);have ho2:=iD (Zj ho1 hset (fun i hi hm=>by
  obtain rfl:i=g:=by simpa using hm
  exact Ys ho1 hW1 (by decide) hi.symm))
 have hps:Hid (∀ i cs,Blk w i 133 cs->some i ≠ (Value.slice (some ⟨fb,0,none⟩) 1 fc).ownBlock->Blk (w1.setCell ⟨g,6,none⟩ (.slice FA 0 fc')) i 133 cs):=iD (fun i cs hB hne=>hB.touch (ht1.trans hset (fun i hi=>.inl (by simp at hi;simp[hi]))) (fun hm=>by
  rcases lP.1 hm with rfl | hm
  ·exact hne rfl
  ·exact hB.ne_ hW.out (by decide) (by simpa using hm)))
 have hfar:Hid (Far b w (w1.setCell ⟨g,6,none⟩ (.slice FA 0 fc'))):=iD (Far.of (ht1.trans hset (fun i hi=>.inl (by simp at hi;simp[hi]))) (fun i hi=>by
  rcases lP.1 hi with rfl | hi
  ·exact .inl ⟨hfb,_,_,hFB,.inr rfl⟩
  ·obtain rfl:i=g:=by simpa using hi
   exact .inl (Gn hW.out hb)))
 clear hd ho1 hg1 hW ht1 hset hW1 x6 hFB;go_wp2_with fail;go_returns;exact⟨_,rfl,s6.out,ho2.out,hfar.out,hps.out⟩
theorem Znt(g:Nat)(ad:Addr)(r0 d1 r1 fl c:Value)(a0 a1:Str)(n:Int)(b:Nat)(t:Int)(s:ByteArray)(p1 p2:Value){R:World->Prop}(w:World)(hW:Blk w g 73 (wdL (.pointer (some ad)) r0 a0 d1 r1 a1 fl c n))(ho:w.ownsRow b 133 2 fl 1 [.int .i64 t,.string s])
  (hf:Calls lA 152 #[.agg #[.int .i64 t,.string s],p1,p2] w fun e w'=>e=.returned (.int .i64 0)/\R w') :
  Calls lA 151 #[.pointer (some ⟨g,0,none⟩),.int .i64 0,.func (.func 152) #[] #[p1,p2]] w fun e w'=>e=.returned (.int .i64 0)/\R w':=by
 obtain⟨fb,fc,cur,rfl,hfb,hFB,_,_,hcl,htk⟩:=Z5j ho (by omega);have hm:=iD (Z0x g w ad (Xw hW).1);have x6:w.cell? ⟨g,6,none⟩=some (.slice (some ⟨fb,0,none⟩) 1 fc):=(Xw hW).2.2.2.1;obtain⟨r,hr⟩:∃ r,cur=[.int .i64 t,.string s]++r:=⟨cur.drop 2,by rw[<-htk,List.take_append_drop]⟩;replace hf:=iD hf;replace hFB:=iD hFB;replace hr:=iD hr;clear ho hW hcl htk;go_enter func151,ntmps151;go_wp2_with fail;refine hm.out.mono ?_;rintro e w1 ⟨rfl,hw1⟩;rw[hw1];clear hw1 w1 hm;go_wp2_with (first
  | (refine Xj rfl 133 (.tmp 27) rfl fb 0 rfl 133 cur [.int .i64 t,.string s] r hFB.out (by rw[hr.out];rfl) _ underlying133 rfl Gm ?_;go_frame)
  | fail)
 refine hf.out.mono ?_;rintro e w1 ⟨rfl,hw1⟩;replace hw1:=iD hw1;go_wp2_with fail;go_returns;exact⟨rfl,hw1.out⟩
theorem Znu(g r:Nat)(ad:Addr)(r0 d1:Value)(a0 a1:Str)(name:ByteArray)(CL:Nat->List Value)(w:World)(hW:Blk w g 73 (wdL (.pointer (some ad)) r0 a0 d1 (.pointer (some ⟨r,0,none⟩)) a1 (.slice none 0 0) (.pointer none) 0))
  (hnf:∀ W,Touch [g] w W->Calls lA 17 #[.pointer (some ⟨r,0,none⟩),.int .i64 1,.string name] W fun e w'=>∃ cb,e=.returned (.tuple #[.pointer (some ⟨cb,0,none⟩),.int .i64 0])/\Blk w' cb 34 (CL cb)/\W.heap.size<=cb/\Below W.heap.size W w')
  (hen:Calls lA 13 #[.pointer none] w fun e w'=>e=.returned (.tuple #[.bool false,.int .i64 0])/\w'=w) :
  Calls lA 71 #[.pointer (some ⟨g,0,none⟩),.string name] w fun e w'=>∃ cb,e=.returned (.int .i64 0)/\Blk w' g 73 (wdL (.pointer (some ad)) r0 a0 d1 (.pointer (some ⟨r,0,none⟩)) a1 (.slice none 0 0) (.pointer (some ⟨cb,0,none⟩)) 1)/\Blk w' cb 34 (CL cb)/\w.heap.size<=cb/\Touch [g] w w':=by
 have hb:Calls lA 150 #[.pointer (some ⟨g,0,none⟩),.func (.func 17) #[] #[],.string name] w fun e w'=>∃ cb,e=.returned (.int .i64 0)/\Blk w' g 73 (wdL (.pointer (some ad)) r0 a0 d1 (.pointer (some ⟨r,0,none⟩)) a1 (.slice none 0 0) (.pointer (some ⟨cb,0,none⟩)) 1)/\Blk w' cb 34 (CL cb)/\w.heap.size<=cb/\Touch [g] w w':=by
  have hm:=iD (Z0x g w ad (Xw hW).1);obtain⟨_,_,_,_,x7,x8⟩:=Xw hW;have f8:=hW.frozen 8;have hset:Touch [g] w (w.setCell ⟨g,8,none⟩ (.int .i64 1)):=Touch.setCell _ (by simp);have hW2:Blk (w.setCell ⟨g,8,none⟩ (.int .i64 1)) g 73 (wdL (.pointer (some ad)) r0 a0 d1 (.pointer (some ⟨r,0,none⟩)) a1 (.slice none 0 0) (.pointer none) 1):=hW.set_ 8 _;replace hen:=iD hen;replace hnf:=iD hnf;replace hset:=iD hset;replace hW2:=iD hW2;clear hW;go_enter func150,ntmps150;go_wp2_with fail;refine hm.out.mono ?_;rintro e w1 ⟨rfl,hw1⟩;rw[hw1];clear hw1 w1 hm;go_wp2_with fail;refine hen.out.mono ?_;rintro e w1 ⟨rfl,hw1⟩;rw[hw1];clear hw1 w1 hen;go_upto_region 7 with fail;generalize hW1:lL w _ _=w2 at hset hW2 ⊢;clear hW1 f8;obtain⟨PS,hPS⟩:∃ PS:World->Prop,∀ y,PS y ↔ Blk y g 73 (wdL (.pointer (some ad)) r0 a0 d1 (.pointer (some ⟨r,0,none⟩)) a1 (.slice none 0 0) (.pointer none) 1):=⟨_,fun _=>Iff.rfl⟩;have s1:∀ y:Cls PS,y.1.cell? ⟨g,4,none⟩=some (.pointer (some ⟨r,0,none⟩)):=fun y=>(Xw ((hPS _).1 y.2)).2.2.1;have s2:∀ y:Cls PS,y.1.cell? ⟨g,8,none⟩=some (.int .i64 1):=fun y=>(Xw ((hPS _).1 y.2)).2.2.2.2.2;have s4:PS w2.drew:=(hPS _).2 hW2.out.drew;haveI : Nonempty (Cls PS):=⟨⟨_,s4⟩⟩;replace hPS:=iD hPS;refine Yh (fun w'=>∃ y:Cls PS,w'=y.1) [([0,1,2,3,4,5,6,7,8,9,10,11],12)] [13,14,15,16] 17 [] (by kernel_rfl) (by kernel_rfl) (fun _ d _ _ _ h=>by cases d <;> exact h) ⟨⟨_,s4⟩,rfl⟩ ?_;simp only[Y4,Z7,lQ,lR,Zo,Zn];repeat (first | go_big_quiet_step (fail))
  refine lC ?_;intro K hK;go_simp;refine (hnf.out _ (hset.out.trans (Touch.ofBelow (L:=[]) (lD _ _).drew) (by simp))).mono ?_;rintro e w3 ⟨cb,rfl,hC3,hcb,hb3⟩;have hd:Below w2.heap.size w2 w3:=(lD _ _).drew.trans (hb3.mono (lI _));have hW3:=hW2.out.below hd hW2.out.lt;refine hK _ _ ⟨⟨_,(hPS.out _).2 hW3⟩,rfl⟩ ?_;clear hK s4;have c7:w3.cell? ⟨g,7,none⟩=some (.pointer none):=(Xw hW3).2.2.2.2.1;have f7:=hW3.frozen 7;have hW4:=iD (hW3.set_ 7 (.pointer (some ⟨cb,0,none⟩)));have hC4:=iD (hC3.far (p:=⟨g,7,none⟩) (hC3.ne_ hW3 (by decide)) (.pointer (some ⟨cb,0,none⟩)));have ht4:Hid (Touch [g] w (w3.setCell ⟨g,7,none⟩ (.pointer (some ⟨cb,0,none⟩)))):=iD ((hset.out.trans (Touch.ofBelow (L:=[]) hd) (by simp)).trans (Touch.setCell (L:=[g]) _ (by simp)) (fun i hi=>.inl hi));have hle:w.heap.size<=cb:=lK hset.out.size hcb;clear hC3 hcb hb3 hd hW3 hW2 hset hnf x7 x8 hPS s1 s2;repeat (first | go_big_quiet_step (fail))
  refine lC ?_
  change wpList _ _ _ _ _ w3
  go_wp2_with fail;go_returns;exact⟨cb,rfl,hW4.out,hC4.out,hle,ht4.out⟩
 replace hb:=iD hb;clear hW hnf hen;go_enter func71,ntmps71;go_wp2_with fail;refine hb.out.mono ?_;rintro e w1 ⟨cb,rfl,h1,h2,h3,h4⟩;replace h1:=iD h1;replace h2:=iD h2;replace h4:=iD h4;go_wp2_with fail;go_returns;exact⟨cb,rfl,h1.out,h2.out,h3,h4.out⟩
end
section
set_option maxRecDepth 100000
set_option maxHeartbeats 8000000
open Go.Lib renaming hid → iD
open Go.Proofs.Tryz
open Go.RowKit
theorem Znv(g cb:Nat)(ad:Addr)(r0 d1 r1:Value)(a0 a1:Str)(n:Int)(s:Str)(CL:List Value)(w:World)(hW:Blk w g 73 (wdL (.pointer (some ad)) r0 a0 d1 r1 a1 (.slice none 0 0) (.pointer (some ⟨cb,0,none⟩)) n))(hC:Blk w cb 34 CL)
  (hen:∀ W,Blk W cb 34 CL->Calls lA 13 #[.pointer (some ⟨cb,0,none⟩)] W fun e w'=>e=.returned (.tuple #[.bool false,.int .i64 0])/\Below W.heap.size W w')
  (hsay:∀ W,Blk W cb 34 CL->Calls lA 14 #[.pointer (some ⟨cb,0,none⟩)] W fun e w'=>e=.returned (.string ⟨s.toArray⟩)/\w'=W) :
  Calls lA 73 #[.pointer (some ⟨g,0,none⟩)] w fun e w'=>∃ fl,e=.returned (.int .i64 0)/\Blk w' g 73 (wdL (.pointer (some ad)) r0 a0 d1 r1 a1 fl (.pointer (some ⟨cb,0,none⟩)) n)/\w'.ownsRow w.heap.size 133 2 fl 1 [.int .i64 0,.string ⟨s.toArray⟩]/\Touch [g] w w':=by
 have hm:=iD (Z0x g w ad (Xw hW).1);obtain⟨_,_,_,_,x7,_⟩:=Xw hW;have he:=iD (hen w hC);replace hW:=iD hW;replace hC:=iD hC;replace hsay:=iD hsay;clear hen;go_enter func73,ntmps73;go_wp2_with fail;refine hm.out.mono ?_;rintro e w1 ⟨rfl,hw1⟩;rw[hw1];clear hw1 w1 hm;go_wp2_with fail;refine he.out.mono ?_;rintro e w1 ⟨rfl,hb1⟩;have hW1:=hW.out.below hb1 hW.out.lt;have hC1:=iD (hC.out.below hb1 hC.out.lt);have x6:w1.cell? ⟨g,6,none⟩=some (.slice none 0 0):=(Xw hW1).2.2.2.1;clear x7 he;have x7:w1.cell? ⟨g,7,none⟩=some (.pointer (some ⟨cb,0,none⟩)):=(Xw hW1).2.2.2.2.1;replace hW1:=iD hW1;clear hW hC;go_upto_region 8 with fail;obtain⟨PS,hPS⟩:∃ PS:World->Prop,∀ y,PS y ↔ Blk y g 73 (wdL (.pointer (some ad)) r0 a0 d1 r1 a1 (.slice none 0 0) (.pointer (some ⟨cb,0,none⟩)) n):=⟨_,fun _=>Iff.rfl⟩;have s1:∀ y:Cls PS,y.1.cell? ⟨g,6,none⟩=some (.slice none 0 0):=fun y=>(Xw ((hPS _).1 y.2)).2.2.2.1;have s2:∀ y:Cls PS,y.1.cell? ⟨g,7,none⟩=some (.pointer (some ⟨cb,0,none⟩)):=fun y=>(Xw ((hPS _).1 y.2)).2.2.2.2.1;have s4:PS w1.drew:=(hPS _).2 hW1.out.drew;haveI : Nonempty (Cls PS):=⟨⟨_,s4⟩⟩;replace hPS:=iD hPS;refine Yh (fun w'=>∃ y:Cls PS,w'=y.1) [([0,1,2,3,4,5,6,7,8],9),([10],11),([],12)] [13,14] 15 [] (by kernel_rfl) (by kernel_rfl) (fun _ d _ _ _ h=>by cases d <;> exact h) ⟨⟨_,s4⟩,rfl⟩ ?_;simp only[Y4,Z7,lQ,lR,Zo,Zn];repeat (first | go_big_quiet_step (fail))
 refine lC ?_;intro K hK;go_simp;refine (hsay.out _ hC1.out.drew).mono ?_;rintro e wz ⟨rfl,hwz⟩;rw[hwz];clear hwz wz;refine hK _ _ ⟨⟨_,s4⟩,rfl⟩ ?_;clear hK;repeat (first | go_big_quiet_step (fail))
 refine lC ?_;intro K hK;refine J0 _ _ rfl _ (Jy 71 (.tmp 42) rfl _ _ rfl (Zbl 0 ⟨s.toArray⟩ _)) ?_;have hN2:Blk (w1.drew.alloc (.cells #[.int .i64 0,.string ⟨s.toArray⟩] 133)) w1.heap.size 133 [.int .i64 0,.string ⟨s.toArray⟩]:=Blk.new_at rfl;have hb2:Below w1.heap.size w1 (w1.drew.alloc (.cells #[.int .i64 0,.string ⟨s.toArray⟩] 133)):=by go_grown
 change K _ (lF w1.drew _)
 generalize lF w1.drew _=w2 at hN2 hb2 ⊢;have hW2:=hW1.out.below hb2 hW1.out.lt;refine hK _ _ ⟨⟨_,(hPS.out _).2 hW2⟩,rfl⟩ ?_;clear hK;refine lC ?_;intro K hK;have hs2:w.heap.size<=w2.heap.size:=lK hb1.size hb2.size;refine Vs _ rfl (.tmp 36) (.tmp 43) 71 rfl w.heap.size 133 (.agg U2.toArray) 2 24 underlying71 Zbk (.slice none 0 0) 0 [] rfl ⟨rfl,.inl ⟨rfl,rfl⟩⟩ (fun _=>True) (some ⟨w1.heap.size,0,none⟩) 1 1 [.int .i64 0,.string ⟨s.toArray⟩] rfl rfl (Rd.of_blk (r:=[]) hN2 rfl trivial) (by simp[lN]) (by decide) (by omega) hs2 ?_;intro v3 w3 hrow3 hg3 hv3;obtain⟨FA,fc,rfl,_,_⟩:=Za hrow3;have ht3:Touch [] w2 w3:=Touch.grown hg3 (by simp[lG]);have hW3:=hW2.touch ht3 (by simp);refine hK _ _ ⟨⟨_,(hPS.out _).2 hW3⟩,rfl⟩ ?_;clear hK s4;have c6:w3.cell? ⟨g,6,none⟩=some (.slice none 0 0):=(Xw hW3).2.2.2.1;have f6:=hW3.frozen 6;have hW4:=iD (hW3.set_ 6 (.slice FA (0+1) fc));have hset:Touch [g] w3 (w3.setCell ⟨g,6,none⟩ (.slice FA (0+1) fc)):=Touch.setCell _ (by simp);have hrow4:=iD (Zj hrow3 hset (fun i hi hm=>by
  obtain rfl:i=g:=by simpa using hm
  exact Ys hrow3 hW3 (by decide) hi.symm))
 have ht4:Hid (Touch [g] w (w3.setCell ⟨g,6,none⟩ (.slice FA (0+1) fc))):=iD (((((Touch.ofBelow (L:=[]) hb1).trans (Touch.ofBelow (L:=[]) hb2) (by simp)).trans ht3 (by simp)).mono (L':=[g]) (by simp)).trans hset (fun i hi=>.inl hi));clear hN2 hb2 hW2 hrow3 hg3 hv3 ht3 hW3 hset hPS s1 s2 hW1 hC1 hsay hb1 x6 x7;go_frame;repeat (first | go_big_quiet_step (fail))
 refine lC ?_
 change wpList _ _ _ _ _ w3
 go_wp2_with fail;go_returns;exact⟨_,rfl,hW4.out,hrow4.out,ht4.out⟩
end
section
set_option maxRecDepth 100000
open Go.Proofs.Tryz
open Go.ChangeShapes Go.WideShapes Go.ChangeAt Go.RowKit
section
variable {H:Type} {enc:TypeId × Value->H}
theorem open_wact{W:World}{r:Reach}{b0 base:Nat}{held:Bool}{v:Value}{d:DataW H}{p:List MemPlace}(hval:Value.okWide lA W r b0 66 v)(h:DataW.Trod enc lA W base (fun _=>true) held 66 v d p) :
  ∃ k sd n x nm c ck ca cb ct ch,v=.agg (Qd k sd n x nm c ck ca cb ct ch).toArray:=by
 have hu:=underlying66;have hu6:=underlying63;have hC:lA.cellsOf 66=11:=by kernel_rfl
 have hC6:lA.cellsOf 63=4:=by kernel_rfl
 obtain⟨cs,rfl,hsz⟩:=okWide_struct hu hval;obtain⟨fuel,hf⟩:=h;have hv:(Value.agg cs).cells.toList=cs.toList:=by simp[Value.cells]
 rw[hv] at hf;obtain⟨l,hl⟩:∃ l,l=cs.toList:=⟨_,rfl⟩;have hcs:cs=l.toArray:=by rw[hl]
 rw[<-hl] at hf;obtain⟨xs,n,_,hx,hcl,hlen,hg⟩:=lS hu hf;rw[hC] at hcl;have k3:lA.cellsOf 3=1:=by kernel_rfl
 have k9:lA.cellsOf 9=1:=by kernel_rfl
 have k5:lA.cellsOf 5=1:=by kernel_rfl
 have k64:lA.cellsOf 64=1:=by kernel_rfl
 clear hl
 match l,hcl,xs,hlen with
 | [c0,c1,c2,c3,c4,c5,c6,c7,c8,c9,c10],_,[y0,y1,y2,y3,y4,y5,y6,y7],_ =>
  have g0:lB enc lA W base (fun _=>true) held n 3 [c0]=some y0:=by have:=hg 0 _ rfl;simpa[k3] using this
  have g1:lB enc lA W base (fun _=>true) held n 3 [c1]=some y1:=by have:=hg 1 _ rfl;simpa[k3] using this
  have g2:lB enc lA W base (fun _=>true) held n 3 [c2]=some y2:=by have:=hg 2 _ rfl;simpa[k3] using this
  have g3:lB enc lA W base (fun _=>true) held n 3 [c3]=some y3:=by have:=hg 3 _ rfl;simpa[k3] using this
  have g4:lB enc lA W base (fun _=>true) held n 9 [c4]=some y4:=by have:=hg 4 _ rfl;simpa[k9] using this
  have g5:lB enc lA W base (fun _=>true) held n 5 [c5]=some y5:=by have:=hg 5 _ rfl;simpa[k5] using this
  have g6:lB enc lA W base (fun _=>true) held n 63 [c6,c7,c8,c9]=some y6:=by have:=hg 6 _ rfl;simpa[hC6] using this
  obtain⟨i0,e0,_,_⟩:=lE underlying3 g0;obtain⟨i1,e1,_,_⟩:=lE underlying3 g1;obtain⟨i2,e2,_,_⟩:=lE underlying3 g2;obtain⟨i3,e3,_,_⟩:=lE underlying3 g3;obtain⟨s4,e4,_,_⟩:=lH underlying9 g4;obtain⟨i5,e5,_,w5⟩:=lE underlying5 g5;obtain⟨x5,hx5⟩:=byte_of_wf w5;obtain⟨zs,m,_,hz,hzl,hzn,hk⟩:=lS hu6 g6
  match zs,hzn with
  | [z0,z1,z2,z3],_ =>
   have q0:lB enc lA W base (fun _=>true) held m 3 [c6]=some z0:=by have:=hk 0 _ rfl;simpa[k3] using this
   have q1:lB enc lA W base (fun _=>true) held m 9 [c7]=some z1:=by have:=hk 1 _ rfl;simpa[k9] using this
   have q2:lB enc lA W base (fun _=>true) held m 9 [c8]=some z2:=by have:=hk 2 _ rfl;simpa[k9] using this
   have q3:lB enc lA W base (fun _=>true) held m 9 [c9]=some z3:=by have:=hk 3 _ rfl;simpa[k9] using this
   obtain⟨i6,e6,_,_⟩:=lE underlying3 q0;obtain⟨s7,e7,_,_⟩:=lH underlying9 q1;obtain⟨s8,e8,_,_⟩:=lH underlying9 q2;obtain⟨s9,e9,_,_⟩:=lH underlying9 q3;cases e0;cases e1;cases e2;cases e3;cases e4;cases e5;cases e6;cases e7;cases e8;cases e9
   subst hx5;exact⟨i0,i1,i2,i3,s4.data.toList,x5,i6,s7.data.toList,s8.data.toList,s9.data.toList,c10,by rw[hcs];simp[Qd,B]⟩
end
end
end Go.Proofs.YtefjlobdifjogaaGreatDoor
