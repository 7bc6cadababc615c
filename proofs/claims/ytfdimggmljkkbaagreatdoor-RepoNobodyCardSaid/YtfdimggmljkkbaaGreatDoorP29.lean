import Derived.Test.YtfdimggmljkkbaaGreatDoorP28
open Go.DataW renaming trod → lD, trod_string → lE
open Go.Proofs.Tryz renaming prog → lA
open Go.Value renaming oneCell' → lC
open Go.World renaming alloc → lB, setRow → lF
namespace Go.Proofs.YtfdimggmljkkbaaGreatDoor
section
open Go.Lib renaming hid → iD
open Go.Proofs.Tryz
open Go.RowKit
abbrev repZ:List Value:=[.slice none 0 0,.map none,.pointer none,.pointer none,.string ⟨#[]⟩,.bool false]
theorem Zkp(w:World):Calls lA 38 #[.pointer none] w fun e w'=>e=.returned (.bool false)/\w'=w:=by
 go_enter func38,ntmps38;go_wp2_with fail;go_returns;exact⟨rfl,rfl⟩
theorem Zkq(r:Nat)(w:World)(hR:Blk w r 32 repZ):Calls lA 38 #[.pointer (some ⟨r,0,none⟩)] w fun e w'=>e=.returned (.bool false)/\w'=w:=by
 have c2:w.cell? ⟨r,2,none⟩=some (.pointer none):=hR.cell 2;clear hR;go_enter func38,ntmps38;go_wp2_with fail;go_returns;exact⟨rfl,rfl⟩
def Xo(v:Value)(w:World):Prop:=Calls lA 38 #[v] w fun e w'=>e=.returned (.bool false)/\w'=w
theorem Z69(v:Value)(s:ByteArray)(w:World)(hm:Xo v w):Calls lA 20 #[v,.string s] w fun e w'=>e=.returned (.tuple #[Z2,.int .i64 2])/\w'=w:=by
 unfold Xo at hm;replace hm:=iD hm;go_enter func20,ntmps20;go_wp2_with fail;refine hm.out.mono ?_;rintro e w1 ⟨rfl,hw1⟩;rw[hw1];clear hw1 w1;go_wp2_with fail;go_returns;exact⟨rfl,rfl⟩
theorem Zb5(v:Value)(s:ByteArray)(w:World)(hm:Xo v w):Calls lA 4 #[v,.string s] w fun e w'=>e=.returned (.tuple #[.string ⟨#[]⟩,.int .i64 2])/\w'=w:=by
 have hv:=iD (Z69 v s w hm);clear hm;go_enter func4,ntmps4;go_wp2_with fail;refine hv.out.mono ?_;rintro e w1 ⟨rfl,hw1⟩;rw[hw1];clear hw1 w1;go_wp2_with fail;go_returns;exact⟨rfl,rfl⟩
end
section
set_option maxRecDepth 100000
set_option maxHeartbeats 4000000
open Go.Lib renaming hid → iD
open Go.Proofs.Tryz
open Go.RowKit
theorem Zkr(v:Value)(s:ByteArray)(w:World)(hm:Xo v w):Calls lA 5 #[v,.string s] w fun e w'=>e=.returned (.tuple #[Z2,.int .i64 2])/\w'=w:=by
 replace hm:=Z69 v s w hm;replace hm:=iD hm;go_enter func5,ntmps5;go_wp2_with fail;refine hm.out.mono ?_;rintro e w1 ⟨rfl,hw1⟩;rw[hw1];clear hw1 w1;go_wp2_with fail;go_returns;exact⟨rfl,rfl⟩
theorem Zks(v:Value)(s t:ByteArray)(w:World)(hm:Xo v w):Calls lA 6 #[v,.string s,.string t] w fun e w'=>e=.returned (.tuple #[Z2,.int .i64 2])/\w'=w:=by
 replace hm:=Zb5 v s w hm;replace hm:=iD hm;go_enter func6,ntmps6;go_wp2_with fail;refine hm.out.mono ?_;rintro e w1 ⟨rfl,hw1⟩;rw[hw1];clear hw1 w1;go_wp2_with fail;go_returns;exact⟨rfl,rfl⟩
theorem Zkt(v:Value)(s:ByteArray)(w:World)(hm:Xo v w):Calls lA 7 #[v,.string s] w fun e w'=>e=.returned (.tuple #[Z2,.int .i64 2])/\w'=w:=by
 replace hm:=Z69 v s w hm;replace hm:=iD hm;go_enter func7,ntmps7;go_wp2_with fail;refine hm.out.mono ?_;rintro e w1 ⟨rfl,hw1⟩;rw[hw1];clear hw1 w1;go_wp2_with fail;go_returns;exact⟨rfl,rfl⟩
theorem Gj(v:Value)(f:Value)(w:World)(hm:Xo v w):Calls lA 28 #[v,f] w fun e w'=>e=.returned (.int .i64 2)/\w'=w:=by
 unfold Xo at hm;replace hm:=iD hm;go_enter func28,ntmps28;go_wp2_with fail;refine hm.out.mono ?_;rintro e w1 ⟨rfl,hw1⟩;rw[hw1];clear hw1 w1;go_wp2_with fail;go_returns;exact⟨rfl,rfl⟩
theorem Zku(v:Value)(a b:Value)(w:World)(hm:Xo v w):Calls lA 10 #[v,a,b] w fun e w'=>e=.returned (.tuple #[.string ⟨#[]⟩,.int .i64 2])/\w'=w:=by
 unfold Xo at hm;replace hm:=iD hm;go_enter func10,ntmps10;go_wp2_with fail;refine hm.out.mono ?_;rintro e w1 ⟨rfl,hw1⟩;rw[hw1];clear hw1 w1;go_wp2_with fail;go_returns;exact⟨rfl,rfl⟩
theorem Zkv(v:Value)  (w:World)(hm:Xo v w):Calls lA 11 #[v] w fun e w'=>e=.returned (Z2)/\w'=w:=by
 unfold Xo at hm;replace hm:=iD hm;go_enter func11,ntmps11;go_wp2_with fail;refine hm.out.mono ?_;rintro e w1 ⟨rfl,hw1⟩;rw[hw1];clear hw1 w1;go_wp2_with fail;go_returns;exact⟨rfl,rfl⟩
theorem Zkw(v:Value)  (w:World)(hm:Xo v w):Calls lA 12 #[v] w fun e w'=>e=.returned (Z2)/\w'=w:=by
 unfold Xo at hm;replace hm:=iD hm;go_enter func12,ntmps12;go_wp2_with fail;refine hm.out.mono ?_;rintro e w1 ⟨rfl,hw1⟩;rw[hw1];clear hw1 w1;go_wp2_with fail;go_returns;exact⟨rfl,rfl⟩
theorem Zkx(p:Option Addr)(s t:ByteArray)(w:World)(hm:∀ W,Below w.heap.size w W->Xo (.pointer p) W):Calls lA 13 #[.pointer p,.string s,.string t] w fun e w'=>e=.returned (.int .i64 2)/\Below w.heap.size w w':=by
 have hw:=iD (fun W f (hb:Below w.heap.size w W)=>Gj (.pointer p) f W (hm W hb));clear hm;go_enter func13,ntmps13;go_wp2_with fail;refine (hw.out _ _ (by go_grown)).mono ?_;rintro e wz ⟨rfl,hwz⟩;rw[hwz];clear hwz wz;go_wp2_with fail;go_returns;exact⟨rfl,by go_grown⟩
theorem Zky(p:Option Addr)(s:ByteArray)(w:World)(hm:∀ W,Below w.heap.size w W->Xo (.pointer p) W):Calls lA 14 #[.pointer p,.string s] w fun e w'=>e=.returned (.int .i64 2)/\Below w.heap.size w w':=by
 have hw:=iD (fun W f (hb:Below w.heap.size w W)=>Gj (.pointer p) f W (hm W hb));clear hm;go_enter func14,ntmps14;go_wp2_with fail;refine (hw.out _ _ (by go_grown)).mono ?_;rintro e wz ⟨rfl,hwz⟩;rw[hwz];clear hwz wz;go_wp2_with fail;go_returns;exact⟨rfl,by go_grown⟩
theorem Zkz(p:Option Addr)(s t:ByteArray)(w:World)(hm:∀ W,Below w.heap.size w W->Xo (.pointer p) W):Calls lA 15 #[.pointer p,.string s,.string t] w fun e w'=>e=.returned (.int .i64 2)/\Below w.heap.size w w':=by
 have hw:=iD (fun W f (hb:Below w.heap.size w W)=>Gj (.pointer p) f W (hm W hb));clear hm;go_enter func15,ntmps15;go_wp2_with fail;refine (hw.out _ _ (by go_grown)).mono ?_;rintro e wz ⟨rfl,hwz⟩;rw[hwz];clear hwz wz;go_wp2_with fail;go_returns;exact⟨rfl,by go_grown⟩
theorem Zl0(p:Option Addr)  (w:World)(hm:∀ W,Below w.heap.size w W->Xo (.pointer p) W):Calls lA 16 #[.pointer p] w fun e w'=>e=.returned (.int .i64 2)/\Below w.heap.size w w':=by
 have hw:=iD (fun W f (hb:Below w.heap.size w W)=>Gj (.pointer p) f W (hm W hb));clear hm;go_enter func16,ntmps16;go_wp2_with fail;refine (hw.out _ _ (by go_grown)).mono ?_;rintro e wz ⟨rfl,hwz⟩;rw[hwz];clear hwz wz;go_wp2_with fail;go_returns;exact⟨rfl,by go_grown⟩
theorem Zl1(p:Option Addr)(s:ByteArray)(A:Option Addr)(n c:Nat)(q:Bool)(w:World)(hm:∀ W,Below w.heap.size w W->Xo (.pointer p) W):Calls lA 17 #[.pointer p,.string s,.slice A n c,.bool q] w fun e w'=>e=.returned (.int .i64 2)/\Below w.heap.size w w':=by
 have hw:=iD (fun W f (hb:Below w.heap.size w W)=>Gj (.pointer p) f W (hm W hb));clear hm;go_enter func17,ntmps17;go_wp2_with fail;refine (hw.out _ _ (by go_grown)).mono ?_;rintro e wz ⟨rfl,hwz⟩;rw[hwz];clear hwz wz;go_wp2_with fail;go_returns;exact⟨rfl,by go_grown⟩
theorem Zl2(p:Option Addr)(s t u:ByteArray)(w:World)(hm:∀ W,Below w.heap.size w W->Xo (.pointer p) W):Calls lA 8 #[.pointer p,.string s,.string t,.string u] w fun e w'=>e=.returned (.tuple #[.agg Z3.toArray,.int .i64 2])/\Below w.heap.size w w':=by
 have hw:=iD (fun W f (hb:Below w.heap.size w W)=>Gj (.pointer p) f W (hm W hb));clear hm;go_enter func8,ntmps8;go_upto_region 1 with fail;generalize hW1:lB _ _=w1;have hb1:Below w.heap.size w w1:=by rw[<-hW1];go_grown
 have q0:w1.cell? ⟨w.heap.size,0,none⟩=some (.pointer p):=by
  have h:Blk w1 w.heap.size 24 [.pointer p]:=by
   rw[<-hW1];exact Blk.alloc (Blk.alloc (Blk.alloc (Blk.alloc (Blk.new_at rfl) _) _) _) _
  exact h.cell 0
 have hi1:Blk w1 (w.heap.size+1+1+1+1) 47 Z3:=by rw[<-hW1];exact Blk.new_at (by simp)
 clear hW1;have hrow:=Z51 hi1;have hw1:=iD (fun f=>hw.out w1 f hb1);clear hw;replace hrow:=iD hrow;replace hi1:=iD hi1;replace hb1:=iD hb1;go_wp2_with fail;refine (hw1.out _).mono ?_;rintro e wz ⟨rfl,hwz⟩;rw[hwz];clear hwz wz;go_wp2_with (first
  | (refine Y0 rfl 47 (.tmp 8) rfl (w.heap.size+1+1+1+1) rfl 47 Z3 hi1.out _ underlying47 rfl (by kernel_rfl) ?_;go_frame)
  | (refine Zo rfl 47 (.tmp 8) (.tmp 13) rfl (w.heap.size+1+1+1+1) Z3 rfl rfl 47 Z3 hi1.out rfl (by kernel_rfl) (by simp[Z3,lC]) ?_;go_frame)
  | fail)
 rw[hrow.out];exact Ub rfl (w.heap.size+1+1+1+1) 47 Z3 _ (.int .i64 2) rfl rfl hi1.out underlying47 rfl (by kernel_rfl) rfl ⟨rfl,hb1.out⟩
theorem Zl3(p:Option Addr)(s t u:ByteArray)(w:World)(hm:∀ W,Below w.heap.size w W->Xo (.pointer p) W):Calls lA 9 #[.pointer p,.string s,.string t,.string u] w fun e w'=>e=.returned (.tuple #[.agg Z3.toArray,.int .i64 2])/\Below w.heap.size w w':=by
 have hw:=iD (fun W f (hb:Below w.heap.size w W)=>Gj (.pointer p) f W (hm W hb));clear hm;go_enter func9,ntmps9;go_upto_region 1 with fail;generalize hW1:lB _ _=w1;have hb1:Below w.heap.size w w1:=by rw[<-hW1];go_grown
 have q0:w1.cell? ⟨w.heap.size,0,none⟩=some (.pointer p):=by
  have h:Blk w1 w.heap.size 24 [.pointer p]:=by
   rw[<-hW1];exact Blk.alloc (Blk.alloc (Blk.alloc (Blk.alloc (Blk.new_at rfl) _) _) _) _
  exact h.cell 0
 have hi1:Blk w1 (w.heap.size+1+1+1+1) 47 Z3:=by rw[<-hW1];exact Blk.new_at (by simp)
 clear hW1;have hrow:=Z51 hi1;have hw1:=iD (fun f=>hw.out w1 f hb1);clear hw;replace hrow:=iD hrow;replace hi1:=iD hi1;replace hb1:=iD hb1;go_wp2_with fail;refine (hw1.out _).mono ?_;rintro e wz ⟨rfl,hwz⟩;rw[hwz];clear hwz wz;go_wp2_with (first
  | (refine Y0 rfl 47 (.tmp 8) rfl (w.heap.size+1+1+1+1) rfl 47 Z3 hi1.out _ underlying47 rfl (by kernel_rfl) ?_;go_frame)
  | (refine Zo rfl 47 (.tmp 8) (.tmp 13) rfl (w.heap.size+1+1+1+1) Z3 rfl rfl 47 Z3 hi1.out rfl (by kernel_rfl) (by simp[Z3,lC]) ?_;go_frame)
  | fail)
 rw[hrow.out];exact Ub rfl (w.heap.size+1+1+1+1) 47 Z3 _ (.int .i64 2) rfl rfl hi1.out underlying47 rfl (by kernel_rfl) rfl ⟨rfl,hb1.out⟩
end
section
set_option maxRecDepth 100000
open Go.Lib renaming hid → iD
open Go.Proofs.Tryz
open Go.RowKit
theorem Zl4(w:World):Calls lA 139 #[.pointer none] w fun e w'=>e=.returned (.bool false)/\w'=w:=by
 go_enter func139,ntmps139;go_wp2_with fail;go_returns;exact⟨rfl,rfl⟩
theorem Zl5(g:Nat)(w:World)(h0:w.cell? ⟨g,0,none⟩=some (.map none)):Calls lA 139 #[.pointer (some ⟨g,0,none⟩)] w fun e w'=>e=.returned (.bool false)/\w'=w:=by
 have hb:∀ W:World,(binOp .neq 61 (.map none) (.map none)).run lA W=.ok (.bool false) W:=fun W=>by first | rfl | kernel_rfl | simp[binOp]
 go_enter func139,ntmps139;go_wp2_with fail;go_returns;exact⟨rfl,rfl⟩
theorem Zl6(p:Option Addr)(w:World)(hm:Calls lA 139 #[.pointer p] w fun e w'=>e=.returned (.bool false)/\w'=w):Calls lA 71 #[.pointer p] w fun e w'=>e=.returned (.pointer none)/\w'=w:=by
 replace hm:=iD hm;go_enter func71,ntmps71;go_wp2_with fail;refine hm.out.mono ?_;rintro e w1 ⟨rfl,hw1⟩;rw[hw1];clear hw1 w1;go_wp2_with fail;go_returns;exact⟨rfl,rfl⟩
theorem Zb6(p:Option Addr)(s:ByteArray)(w:World)(hm:Calls lA 139 #[.pointer p] w fun e w'=>e=.returned (.bool false)/\w'=w):Calls lA 18 #[.pointer p,.string s] w fun e w'=>e=.returned (.tuple #[.pointer none,.int .i64 2])/\w'=w:=by
 have hc:=iD (Zl6 p w hm);clear hm;go_enter func18,ntmps18;go_wp2_with fail;refine hc.out.mono ?_;rintro e w1 ⟨rfl,hw1⟩;rw[hw1];clear hw1 w1;go_wp2_with fail;go_returns;exact⟨rfl,rfl⟩
end
section
set_option maxRecDepth 100000
set_option maxHeartbeats 16000000
open Go.Lib renaming hid → iD
open Go.Proofs.Tryz
open Go.RowKit
abbrev Z6a(k:Int)(a b t:Str):List Value:=[.int .i64 k,.string ⟨a.toArray⟩,.string ⟨b.toArray⟩,.string ⟨t.toArray⟩]
def Gk(w0:World)(gA gZ gS:Nat)(k:Int)(a b t:Str)(w:World):Prop :=
 Blk w gA 23 (Z6a k a b t)/\Blk w gZ 32 repZ/\Blk w gS 24 [.pointer none,.pointer (some ⟨gZ,0,none⟩)]/\Below w0.heap.size w0 w
theorem Gk.below{w0 w w':World}{gA gZ gS:Nat}{k:Int}{a b t:Str}(h:Gk w0 gA gZ gS k a b t w)(hb:Below w.heap.size w w'):Gk w0 gA gZ gS k a b t w' :=
 ⟨h.1.below hb h.1.lt,h.2.1.below hb h.2.1.lt,h.2.2.1.below hb h.2.2.1.lt,h.2.2.2.trans (hb.mono h.2.2.2.size)⟩
theorem reponobody_any(k0:Int)(a b t:Str)(w:World)(hal:∀ W,Below w.heap.size w W->Calls lA 19 #[] W fun e w'=>e=.returned (.bool true)/\Below W.heap.size W w') :
  Calls lA 3 #[.agg (Z6a k0 a b t).toArray] w fun e w'=>e=.returned (.bool true)/\Below w.heap.size w w':=by
 replace hal:=iD hal;obtain⟨gA,hgA⟩:∃ gA,gA=w.heap.size:=⟨_,rfl⟩;go_enter func3,ntmps3;go_upto_region 2 with fail;generalize hW1:lB (lB (lB w _) _) _=w1;have hN1:Gk w w.heap.size (w.heap.size+1) (w.heap.size+1+1) k0 a b t w1:=by
  rw[<-hW1];exact⟨Blk.alloc (Blk.alloc (Blk.new_at rfl) _) _,Blk.alloc (Blk.new_at (by simp)) _,Blk.new_at (by simp),by go_grown⟩
 rw[<-hgA] at hN1 ⊢;clear hW1;replace hgA:=iD hgA;replace hN1:=iD hN1;go_loopw [27] (fun i wr=>∃ k:Nat,k<=2/\i=.int .i64 k/\Gk w gA (gA+1) (gA+1+1) k0 a b t wr) (fun i _=>2 - (intOf i).toNat)
 case atStart=>exact⟨0,by omega,rfl,hN1.out⟩
 case round =>
 obtain⟨k,hk,rfl,hN⟩:=hrel;clear hN1;by_cases hk2:k<2
 ·obtain⟨p,hsk,hoff⟩:∃ p:Option Addr,wr.cell? ⟨gA+1+1,k,none⟩=some (.pointer p)/\∀ W,Blk W (gA+1) 32 repZ->Xo (.pointer p) W:=by
   obtain rfl | rfl:k=0 ∨ k=1:=by omega
   ·exact⟨none,hN.2.2.1.cell 0,fun W _=>Zkp W⟩
   ·exact⟨some ⟨gA+1,0,none⟩,hN.2.2.1.cell 1,fun W h=>Zkq _ W h⟩
  have hof:Hid (∀ W,Gk w gA (gA+1) (gA+1+1) k0 a b t W->Xo (.pointer p) W):=iD (fun W h=>hoff W h.2.1);have hofb:Hid (∀ W,Gk w gA (gA+1) (gA+1+1) k0 a b t W->∀ X,Below W.heap.size W X->Xo (.pointer p) X):=iD (fun W h X hb=>hoff X (h.2.1.below hb h.2.1.lt));have i1:(0:Int)<=(k:Int):=by omega
  have i2:(k:Int)<2:=by omega
  have c1:wr.cell? ⟨gA,1,none⟩=some (.string ⟨a.toArray⟩):=hN.1.cell 1;have c2:wr.cell? ⟨gA,2,none⟩=some (.string ⟨b.toArray⟩):=hN.1.cell 2;have c3:wr.cell? ⟨gA,3,none⟩=some (.string ⟨t.toArray⟩):=hN.1.cell 3;have o1:=iD (Zb5 (.pointer p) ⟨a.toArray⟩ wr (hof.out wr hN));have o2:=iD (Zkr (.pointer p) ⟨a.toArray⟩ wr (hof.out wr hN));have o3:=iD (Zks (.pointer p) ⟨a.toArray⟩ ⟨b.toArray⟩ wr (hof.out wr hN));have o4:=iD (Zkt (.pointer p) ⟨a.toArray⟩ wr (hof.out wr hN));have o5:=iD (Zl2 p ⟨a.toArray⟩ ⟨b.toArray⟩ ⟨t.toArray⟩ wr (hofb.out wr hN));replace hN:=iD hN;clear hoff;go_wp2_with fail;refine o1.out.mono ?_;rintro e wz ⟨rfl,hwz⟩;rw[hwz];clear hwz wz;go_wp2_with fail;refine o2.out.mono ?_;rintro e wz ⟨rfl,hwz⟩;rw[hwz];clear hwz wz;go_wp2_with fail;refine o3.out.mono ?_;rintro e wz ⟨rfl,hwz⟩;rw[hwz];clear hwz wz;go_wp2_with fail;refine o4.out.mono ?_;rintro e wz ⟨rfl,hwz⟩;rw[hwz];clear hwz wz;go_wp2_with fail;refine o5.out.mono ?_;rintro e w2 ⟨rfl,hb2⟩;have hN2:=hN.out.below hb2;clear o1 o2 o3 o4 o5 c1 c2 c3 hN hsk hb2;replace hN2:=iD hN2;go_upto_region 9 with (first
   | (refine Zo rfl 47 (.tmp 13) (.tmp 70) rfl w2.heap.size Z3 rfl rfl 47 Z3 (Blk.new_at rfl) rfl (by kernel_rfl) (by simp[Z3,lC]) ?_;go_frame)
   | fail)
  generalize hW3:lF _ _ _=w3;have hb3:Below w2.heap.size w2 w3:=by rw[<-hW3];exact below_setRow bL (Nat.le_refl _) _
  have hN3:=hN2.out.below hb3;clear hW3 hb3 hN2;have c1:w3.cell? ⟨gA,1,none⟩=some (.string ⟨a.toArray⟩):=hN3.1.cell 1;have c2:w3.cell? ⟨gA,2,none⟩=some (.string ⟨b.toArray⟩):=hN3.1.cell 2;have c3:w3.cell? ⟨gA,3,none⟩=some (.string ⟨t.toArray⟩):=hN3.1.cell 3;have o6:=iD (Zl3 p ⟨a.toArray⟩ ⟨b.toArray⟩ ⟨t.toArray⟩ w3 (hofb.out w3 hN3));replace hN3:=iD hN3;go_wp2_with fail;refine o6.out.mono ?_;rintro e w4 ⟨rfl,hb4⟩;have hN4:=hN3.out.below hb4;clear o6 c1 c2 c3 hN3 hb4;replace hN4:=iD hN4;go_upto_region 10 with (first
   | (refine Zo rfl 47 (.tmp 15) (.tmp 81) rfl w4.heap.size Z3 rfl rfl 47 Z3 (Blk.new_at rfl) rfl (by kernel_rfl) (by simp[Z3,lC]) ?_;go_frame)
   | fail)
  generalize hW5:lF _ _ _=w5;have hb5:Below w4.heap.size w4 w5:=by rw[<-hW5];exact below_setRow bL (Nat.le_refl _) _
  have hN5:=hN4.out.below hb5;clear hW5 hb5 hN4;have c1:w5.cell? ⟨gA,1,none⟩=some (.string ⟨a.toArray⟩):=hN5.1.cell 1;have c2:w5.cell? ⟨gA,2,none⟩=some (.string ⟨b.toArray⟩):=hN5.1.cell 2;have o7:=iD (Zku (.pointer p) Z2 Z2 w5 (hof.out w5 hN5));have o8:=iD (Zkv (.pointer p) w5 (hof.out w5 hN5));have o9:=iD (Zkw (.pointer p) w5 (hof.out w5 hN5));have oa:=iD (Zkx p ⟨a.toArray⟩ ⟨b.toArray⟩ w5 (hofb.out w5 hN5));replace hN5:=iD hN5;go_wp2_with fail;refine o7.out.mono ?_;rintro e wz ⟨rfl,hwz⟩;rw[hwz];clear hwz wz;go_wp2_with fail;refine o8.out.mono ?_;rintro e wz ⟨rfl,hwz⟩;rw[hwz];clear hwz wz;go_wp2_with fail;refine o9.out.mono ?_;rintro e wz ⟨rfl,hwz⟩;rw[hwz];clear hwz wz;go_wp2_with fail;refine oa.out.mono ?_;rintro e w6 ⟨rfl,hb6⟩;have hN6:=hN5.out.below hb6;clear o7 o8 o9 oa c1 c2 hN5 hb6;have c1:w6.cell? ⟨gA,1,none⟩=some (.string ⟨a.toArray⟩):=hN6.1.cell 1;have ob:=iD (Zky p ⟨a.toArray⟩ w6 (hofb.out w6 hN6));replace hN6:=iD hN6;go_wp2_with fail;refine ob.out.mono ?_;rintro e w7 ⟨rfl,hb7⟩;have hN7:=hN6.out.below hb7;clear ob c1 hN6 hb7;have c1:w7.cell? ⟨gA,1,none⟩=some (.string ⟨a.toArray⟩):=hN7.1.cell 1;have c2:w7.cell? ⟨gA,2,none⟩=some (.string ⟨b.toArray⟩):=hN7.1.cell 2;have oc:=iD (Zkz p ⟨a.toArray⟩ ⟨b.toArray⟩ w7 (hofb.out w7 hN7));replace hN7:=iD hN7;go_wp2_with fail;refine oc.out.mono ?_;rintro e w8 ⟨rfl,hb8⟩;have hN8:=hN7.out.below hb8;clear oc c1 c2 hN7 hb8;have od:=iD (Zl0 p w8 (hofb.out w8 hN8));replace hN8:=iD hN8;go_wp2_with fail;refine od.out.mono ?_;rintro e w9 ⟨rfl,hb9⟩;have hN9:=hN8.out.below hb9;clear od hN8 hb9;have c3:w9.cell? ⟨gA,3,none⟩=some (.string ⟨t.toArray⟩):=hN9.1.cell 3;have oe:=iD (Zl1 p ⟨t.toArray⟩ none 0 0 false w9 (hofb.out w9 hN9));replace hN9:=iD hN9;go_wp2_with fail;refine oe.out.mono ?_;rintro e wx ⟨rfl,hbx⟩;have hNx:=iD (hN9.out.below hbx);clear oe c3 hN9 hbx;go_wp2_with fail;go_roundw
  case rel=>exact⟨k+1,by omega,by go_num,hNx.out⟩
  case measure=>simp[intOf];omega
 ·obtain rfl:k=2:=by omega
  have c1:∀ o,(wr.alloc o).cell? ⟨gA,1,none⟩=some (.string ⟨a.toArray⟩):=fun o=>(hN.1.alloc o).cell 1;have o1:=iD (Zb6 none ⟨#[97,110,110]⟩ wr (Zl4 wr));replace hN:=iD hN;go_wp2_with fail;refine o1.out.mono ?_;rintro e wz ⟨rfl,hwz⟩;rw[hwz];clear hwz wz o1;go_wp2_with fail;generalize hW2:lB wr _=w2;have hD:Blk w2 wr.heap.size 64 [.map none,.map none,.slice none 0 0,.int .i64 0,.int .i64 0,.bool false]:=by rw[<-hW2];exact Blk.new_at rfl
  have hb2:Below wr.heap.size wr w2:=by rw[<-hW2];exact bL
  have hN2:=hN.out.below hb2;have o2:=iD (Zb6 (some ⟨wr.heap.size,0,none⟩) ⟨a.toArray⟩ w2 (Zl5 _ w2 (hD.cell 0)));have hal2:=iD (hal.out w2 hN2.2.2.2);have hb02:=iD hN2.2.2.2;clear hW2 hD hb2 hN2 hN c1;refine o2.out.mono ?_;rintro e wz ⟨rfl,hwz⟩;rw[hwz];clear hwz wz o2;go_wp2_with fail;refine hal2.out.mono ?_;rintro e w3 ⟨rfl,hb3⟩;have hb03:=iD (hb02.out.trans (hb3.mono hb02.out.size));clear hal2 hb3 hb02;go_wp2_with fail;go_returns;exact⟨rfl,hb03.out⟩
end
section
set_option maxRecDepth 100000
open Go.Proofs.Tryz
open Go.ChangeShapes Go.WideShapes Go.ChangeAt Go.RowKit
section
variable {H:Type} {enc:TypeId × Value->H}
theorem open_act15{W:World}{r:Reach}{b0 base:Nat}{held:Bool}{v:Value}{d:DataW H}{p:List MemPlace}(hval:Value.okWide lA W r b0 23 v)(h:DataW.Trod enc lA W base (fun _=>true) held 23 v d p) :
  ∃ k a b t,v=.agg (Z6a k a b t).toArray:=by
 have hu:=underlying23;have hC:lA.cellsOf 23=4:=by kernel_rfl
 obtain⟨cs,rfl,hsz⟩:=okWide_struct hu hval;obtain⟨fuel,hf⟩:=h;have hv:(Value.agg cs).cells.toList=cs.toList:=by simp[Value.cells]
 rw[hv] at hf;obtain⟨l,hl⟩:∃ l,l=cs.toList:=⟨_,rfl⟩;have hcs:cs=l.toArray:=by rw[hl]
 rw[<-hl] at hf;obtain⟨xs,n,_,hx,hcl,hlen,hg⟩:=DataW.trod_struct hu hf;rw[hC] at hcl;have k3:lA.cellsOf 3=1:=by kernel_rfl
 have k9:lA.cellsOf 9=1:=by kernel_rfl
 clear hl
 match l,hcl,xs,hlen with
 | [c0,c1,c2,c3],_,[y0,y1,y2,y3],_ =>
  have g0:lD enc lA W base (fun _=>true) held n 3 [c0]=some y0:=by have:=hg 0 _ rfl;simpa[k3] using this
  have g1:lD enc lA W base (fun _=>true) held n 9 [c1]=some y1:=by have:=hg 1 _ rfl;simpa[k9] using this
  have g2:lD enc lA W base (fun _=>true) held n 9 [c2]=some y2:=by have:=hg 2 _ rfl;simpa[k9] using this
  have g3:lD enc lA W base (fun _=>true) held n 9 [c3]=some y3:=by have:=hg 3 _ rfl;simpa[k9] using this
  obtain⟨i0,e0,_,_⟩:=DataW.trod_int underlying3 g0;obtain⟨s1,e1,_,_⟩:=lE underlying9 g1;obtain⟨s2,e2,_,_⟩:=lE underlying9 g2;obtain⟨s3,e3,_,_⟩:=lE underlying9 g3;cases e0;cases e1;cases e2;cases e3
  exact⟨i0,s1.data.toList,s2.data.toList,s3.data.toList,by rw[hcs]⟩
end
end
end Go.Proofs.YtfdimggmljkkbaaGreatDoor
