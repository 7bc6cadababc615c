import Derived.Test.YtefjlobdifjogaaGreatDoorP19
open Array renaming replicate_succ → l7, replicate_zero → l8
open Go renaming rounds_succ → lB, wpQuiet_nil → lD, wp_loop_rounds → lF, wp_region_lit → lJ, wpList_nil → lU
open Go.Builtin renaming clear_ → lZ
open Go.Instr renaming makeFunc → lQ, lookup → lR, buildSlice → lV
open Go.Proofs.Tryz renaming prog → lA
open Go.Result renaming andThen → nC
open Go.RowKit.Below renaming refl → lE
open Go.Value renaming oneCell' → l0, bool → l1
open Go.World renaming alloc → lG, setRow → lI, setCell → lS
open List renaming mem_singleton → lK, nil_append → lL, take_succ_cons → lM, take_zero → lN, drop_succ_cons → lO, drop_zero → lP, map_cons → lW, map_nil → lX, getElem?_append_left → lY, size_toArray → l2, length_cons → l3, length_nil → l4, push_toArray → l9, append_toArray → nA, cons_append → nB
open Nat renaming le_refl → lC, le_trans → lH, zero_add → lT, reduceAdd → l5, reduceSub → l6
namespace Go.Proofs.YtefjlobdifjogaaGreatDoor
section
set_option maxRecDepth 100000
set_option maxHeartbeats 8000000
open Go.Lib renaming hid → iD
open Go.Proofs.Tryz
open Go.RowKit
def Xn(w:World)(g o:Nat)(ds:Str):Prop:=∃ cs r,Blk w g 59 cs/\cs.drop o=ds.map B++r
section
variable {w w':World} {g o:Nat} {ds:Str}
theorem Xn.of{ri:List Value}(h:Blk w g 59 (ds.map B++ri)):Xn w g 0 ds:=⟨_,ri,h,rfl⟩
theorem Xn.lt(h:Xn w g o ds):g<w.heap.size:=by
 obtain⟨cs,r,h1,_⟩:=h;exact h1.lt
theorem Xn.below{n:Nat}(h:Xn w g o ds)(hb:Below n w w')(hl:g<n):Xn w' g o ds:=by
 obtain⟨cs,r,h1,h2⟩:=h;exact⟨cs,r,h1.below hb hl,h2⟩
theorem Xn.drewN(h:Xn w g o ds)(n:Nat):Xn (w.drewN n) g o ds:=by
 obtain⟨cs,r,h1,h2⟩:=h;exact⟨cs,r,h1.drewN n,h2⟩
theorem Xn.touch{L:List Nat}(h:Xn w g o ds)(ht:Touch L w w')(hn:g ∉ L):Xn w' g o ds:=by
 obtain⟨cs,r,h1,h2⟩:=h;exact⟨cs,r,h1.touch ht hn,h2⟩
theorem Xn.ne_{g':Nat}{t:TypeId}{cs':List Value}(h:Xn w g o ds)(h':Blk w g' t cs')(hne:59 ≠ t):g ≠ g':=by
 obtain⟨cs,r,h1,_⟩:=h;exact h1.ne_ h' hne
end
def Oh(w:World)(ds:Str)(v:Value):Prop:=(∃ A c,v=.slice A 0 c) ∨ ∃ ib io c,v=.slice (some ⟨ib,io,none⟩) 1 c/\Xn w ib io ds
theorem Oh.below{w w':World}{ds:Str}{v:Value}(h:Oh w ds v)(hb:Below w.heap.size w w'):Oh w' ds v:=by
 rcases h with h | ⟨ib,io,c,h1,h2⟩
 ·exact .inl h
 ·exact .inr ⟨ib,io,c,h1,h2.below hb h2.lt⟩
structure LookAt (w:World) (k nd cap b sb:Nat) (ds:Str) (x:Bool):Prop where
 look:Blk w k 273 [.slice (some ⟨nd,0,none⟩) 1 cap,.map (some b),.slice (some ⟨sb,0,none⟩) 1 1]
 node:∃ pa pc rs,Blk w nd 165 (Yd ds (.slice pa 0 pc)++rs)
 by_:Z8 w b [(.agg (ds.map B).toArray,.int .i64 0)]
 seen:Blk w sb 4 [.bool x]
theorem LookAt.below{w w':World}{k nd cap b sb:Nat}{ds:Str}{x:Bool}(h:LookAt w k nd cap b sb ds x)(hb:Below w.heap.size w w'):LookAt w' k nd cap b sb ds x:=by
 obtain⟨pa,pc,rs,hN⟩:=h.node;exact⟨h.look.below hb h.look.lt,⟨pa,pc,rs,hN.below hb hN.lt⟩,h.by_.below hb h.by_.lt,h.seen.below hb h.seen.lt⟩
theorem Zan(ds:Str)(hdl:ds.length=32)(nd cap vb vc m:Nat)(pa:Option Addr)(pc:Nat)(rs vs vr:List Value)(hm:vs.length=m)(hm9:m<=1000)(w:World)(hN:Blk w nd 165 (Yd ds (.slice pa 0 pc)++rs))(hV:Blk w vb 22 (vs++vr))(hs:∀ v ∈ vs,Oh w ds v) :
  Calls lA 161 #[.slice (some ⟨nd,0,none⟩) 1 cap,.slice (some ⟨vb,0,none⟩) m vc] w fun e w'=>∃ k b sb,e=.returned (.tuple #[.pointer (some ⟨k,0,none⟩),.int .i64 0])/\LookAt w' k nd cap b sb ds false/\w.heap.size<=k/\w.heap.size<=b/\w.heap.size<=sb/\Below w.heap.size w w':=by
 have hrd:=iD (Zla ds hdl nd cap pa pc rs w hN);have hmk:=O7;replace hN:=iD hN;replace hV:=iD hV;replace hs:=iD hs;go_enter func161,ntmps161;go_wp2_with fail;refine hrd.out.mono ?_;rintro e w1 ⟨b,rfl,hbb,hM1,hb1⟩;have hV1:=hV.out.below hb1 hV.out.lt;have hN1:=hN.out.below hb1 hN.out.lt;have hs1:∀ v ∈ vs,Oh w1 ds v:=fun v hv=>(hs.out v hv).below hb1;clear hrd hV hN hs;replace hV1:=iD hV1;replace hN1:=iD hN1;replace hs1:=iD hs1;replace hM1:=iD hM1;replace hb1:=iD hb1;go_wp2_with fail;go_loopw [26] (fun i wr=>∃ k:Nat,k<=m/\i=.int .i64 (k:Int)/\Below w1.heap.size w1 wr) (fun i _=>m - (intOf i).toNat)
 case atStart=>exact⟨0,by omega,rfl,lE _ _⟩
 case round =>
  obtain⟨k,hk,rfl,hbr⟩:=hrel;by_cases hlt:k<m
  ·have hkv:k<vs.length:=by omega
   have ck:wr.cell? ⟨vb,k,none⟩=some (vs[k]):=by
    have:=(hV1.out.below hbr hV1.out.lt).cell k
    rwa [lY hkv,List.getElem?_eq_getElem hkv] at this
   have hok:=(hs1.out vs[k] (List.getElem_mem hkv)).below (hbr.mono (lC _));replace hbr:=iD hbr;rcases hok with ⟨A,c,hv⟩ | ⟨ib,io,c,hv,ic,ri,hI,hid⟩
   ·rw[hv] at ck;clear hv;go_wp2_with fail;refine lF 1 ?_;rw[lB];go_wp2_with fail;go_roundw
    case rel=>exact⟨k+1,by omega,by go_num,hbr.out⟩
    case measure=>simp[intOf];omega
   ·rw[hv] at ck;clear hv;have hM2:=hM1.out.below hbr.out hM1.out.lt;replace hI:=iD hI;replace hid:=iD hid;replace hM2:=iD hM2;go_upto_region 7 with fail;go_wp2_with fail;refine lF 2 ?_;rw[lB];go_upto_region 10 with (first
     | (refine Xj rfl 59 (.tmp 34) rfl ib io rfl 59 ic (ds.map B) ri hI.out hid.out _ underlying59 rfl (Zg hdl) ?_;go_frame)
     | (refine Zd rfl 59 (.tmp 12) (.tmp 35) rfl wr.heap.size (ds.map B) rfl rfl 59 Z2 (Blk.new_at rfl) (by simp[hdl,Z2]) (Zg hdl) (Y5 _) ?_;go_frame)
     | fail)
    generalize hW3:lI _ wr.heap.size _=w3;have hD3:Blk w3 wr.heap.size 59 (ds.map B):=by rw[<-hW3];exact (Blk.new_at (cs:=Z2) rfl).setRow_same (ds.map B)
    have hb3:Below wr.heap.size wr w3:=by rw[<-hW3];exact below_setRow ((lE _ _).alloc (lC _) (.cells Z2.toArray 59)) (lC _) (ds.map B).toArray
    have hM3:=hM2.out.below hb3 hM2.out.lt;have hb13:=hbr.out.trans (hb3.mono hbr.out.size);have hrun:=hM3.look_some Ja underlying41 (by simpa using Xs ds hdl) (Xs ds hdl) (lK.2 rfl) (by simp) true;clear hW3 hM2 hI hM3 hb3;replace hD3:=iD hD3;replace hb13:=iD hb13;replace hrun:=iD hrun;go_wp2_with (first
     | (refine Zy rfl 59 (.tmp 12) rfl wr.heap.size rfl 59 (ds.map B) hD3.out _ underlying59 rfl (Zg hdl) ?_;go_frame)
     | (refine Y2 (.lookup 41 (.tmp 37) (.tmp 38) true) rfl rfl (.tuple #[.int .i64 0,.bool true]) (Kb 41 (.tmp 37) (.tmp 38) true rfl _ _ _ rfl rfl hrun.out) ?_;go_frame)
     | fail)
    rw[lB];go_wp2_with fail;go_roundw
    case rel=>exact⟨k+1,by omega,by go_num,hb13.out⟩
    case measure=>simp[intOf];omega
  ·have hkm:k=m:=by omega
   subst hkm;clear hlt;go_wp2_with fail;go_returns;have hl1:w1.heap.size<=wr.heap.size:=hbr.size;have hl0:=hb1.out.size;have hg:Below wr.heap.size wr ((wr.alloc (.cells #[.bool false] 4)).alloc (.cells #[.slice (some ⟨nd,0,none⟩) 1 cap,.map (some b),.slice (some ⟨wr.heap.size,0,none⟩) 1 1] 273)):=by go_grown
   have h1:Below w1.heap.size w1 ((wr.alloc (.cells #[.bool false] 4)).alloc (.cells #[.slice (some ⟨nd,0,none⟩) 1 cap,.map (some b),.slice (some ⟨wr.heap.size,0,none⟩) 1 1] 273)):=hbr.trans (hg.mono hl1);exact⟨wr.heap.size+1,b,wr.heap.size,rfl,⟨Blk.new_at (cs:=[.slice (some ⟨nd,0,none⟩) 1 cap,.map (some b),.slice (some ⟨wr.heap.size,0,none⟩) 1 1]) (by simp),⟨pa,pc,rs,hN1.out.below h1 hN1.out.lt⟩,hM1.out.below h1 hM1.out.lt,(Blk.new_at (cs:=[.bool false]) rfl).alloc _⟩,by omega,hbb,by omega,hb1.out.trans (h1.mono hl0)⟩
end
section
set_option maxRecDepth 100000
set_option maxHeartbeats 8000000
open Go.Lib renaming hid → iD
open Go.Proofs.Tryz
open Go.RowKit
theorem Z2u{w:World}{nd:Nat}{ds:Str}{pa:Option Addr}{pc:Nat}{rs:List Value}(hdl:ds.length=32)(h:Blk w nd 165 (Yd ds (.slice pa 0 pc)++rs)):w.cell? ⟨nd,32,none⟩=some (.slice pa 0 pc)/\∃ r,Blk w nd 165 (ds.map B++r):=by
 have h1:=h.cell 32;rw[lY (by rw[Z0w hdl];omega)] at h1;refine⟨by rw[h1];simp[Yd,hdl],_,by rw[Yd,List.append_assoc] at h;exact h⟩
theorem Zlb(ds:Str)(hdl:ds.length=32)(k nd cap b sb ib ic:Nat)(x:Bool)(w:World)(h:LookAt w k nd cap b sb ds x)(hI:Blk w ib 4 [.bool true]) :
  Calls lA 214 #[.pointer (some ⟨k,0,none⟩),.slice (some ⟨ib,0,none⟩) 1 ic] w fun e w'=>∃ A c,e=.returned (.slice A 1 c)/\w'.ownsRow w.heap.size 59 32 (.slice A 1 c) 1 (ds.map B)/\Below w.heap.size w w':=by
 obtain⟨pa,pc,rs,hN⟩:=h.node;obtain⟨n32,r,hD⟩:=Z2u hdl hN;have k0:w.cell? ⟨k,0,none⟩=some (.slice (some ⟨nd,0,none⟩) 1 cap):=h.look.cell 0;have i0:w.cell? ⟨ib,0,none⟩=some (.bool true):=hI.cell 0;have hmk:=O7;have hk1:=h.look;replace hD:=iD hD;replace hN:=iD hN;replace hI:=iD hI;replace hk1:=iD hk1;have hib:=hI.out.lt;have hnd:=hN.out.lt;have hkl:=hk1.out.lt;clear h;go_enter func214,ntmps214;go_upto_region 2 with fail;generalize hW1:lG w _=w1;have hb1:Below w.heap.size w w1:=by rw[<-hW1];exact bL
 have hU1:Blk w1 w.heap.size 4 [.bool false]:=by rw[<-hW1];exact Blk.new_at (cs:=[.bool false]) rfl
 have hD1:=hD.out.below hb1 hnd;have hN1:=hN.out.below hb1 hnd;have hI1:=hI.out.below hb1 hib;have hk2:=hk1.out.below hb1 hkl;clear hW1 k0 i0 n32 hmk hD hN hI hk1;have k0:w1.cell? ⟨k,0,none⟩=some (.slice (some ⟨nd,0,none⟩) 1 cap):=hk2.cell 0;have i0:w1.cell? ⟨ib,0,none⟩=some (.bool true):=hI1.cell 0;have u0:w1.cell? ⟨w.heap.size,0,none⟩=some (.bool false):=hU1.cell 0;replace hD1:=iD hD1;replace hN1:=iD hN1;replace hI1:=iD hI1;replace hk2:=iD hk2;replace hU1:=iD hU1;replace hb1:=iD hb1;go_wp2_with fail;refine lF 2 ?_;rw[lB];go_upto_region 7 with fail;refine lJ ?_;go_wp2_with (first
  | (refine Xj rfl 59 (.tmp 44) rfl nd 0 rfl 165 _ (ds.map B) _ hD1.out rfl _ underlying59 rfl (Zg hdl) ?_;go_frame;refine Hid.out ?_)
  | fail)
 refine iD ?_;refine J5 rfl _ (Jy 22 (.tmp 45) rfl (.agg (ds.map B).toArray) _ rfl (Z0r ds hdl w1)) ?_;go_frame;refine Yt _ rfl (.tmp 37) (.tmp 46) 22 rfl w1.heap.size 59 _ 32 32 underlying22 Uh Z0 0 [] rfl ⟨rfl,.inl ⟨rfl,rfl⟩⟩ (fun _=>True) (some ⟨w1.heap.size,0,none⟩) 1 1 (ds.map B) rfl (by simp[hdl]) (Rd.of_blk (cs:=ds.map B) (r:=[]) (Blk.new_at rfl) (by simp) trivial) (Y5 _) (by unfold maxLen;omega) (by omega) (by simp) ?_;intro R w2 hrow hg hv;rw[lT,lL] at hrow;obtain⟨RA,rc,rfl,_,_⟩:=Za hrow;have hb2:Below w1.heap.size w1 w2:=((lE w1.heap.size w1).alloc (lC _) (.cells (ds.map B).toArray 59)).trans (Yo (v:=Z0) (n:=0) (xs:=[]) (e:=59) (size:=32) ⟨rfl,.inl ⟨rfl,rfl⟩⟩ hg (by simp));go_frame;refine Y2 (.assign (.tmp 47)) rfl rfl (.slice RA 1 rc) rfl ?_;go_frame;refine lU ?_;have hI2:=hI1.out.below hb2 hI1.out.lt;have hN2:=hN1.out.below hb2 hN1.out.lt;have hk3:=hk2.out.below hb2 hk2.out.lt;have hb02:=hb1.out.trans (hb2.mono hb1.out.size);have hrow':=J1 hb1.out.size hrow;clear k0 i0 u0 hD1 hN1 hI1 hk2 hU1 hb1 hrow hg hv hb2;have k0:w2.cell? ⟨k,0,none⟩=some (.slice (some ⟨nd,0,none⟩) 1 cap):=hk3.cell 0;have i0:w2.cell? ⟨ib,0,none⟩=some (.bool true):=hI2.cell 0;have n32:=(Z2u hdl hN2).1;have hso:=iD (Z9v RA rc (.func (.func 270) #[] #[]) w2);replace hN2:=iD hN2;replace hI2:=iD hI2;replace hk3:=iD hk3;replace hb02:=iD hb02;replace hrow':=iD hrow';go_wp2_with fail;refine lF 1 ?_;rw[lB];go_wp2_with fail;rw[lB];go_wp2_with fail;refine hso.out.mono ?_;rintro e w3 ⟨rfl,hb3⟩;have hrow3:=Zj hrow'.out (Touch.ofBelow (L:=[]) hb3) (fun b hb hm=>by cases hm);have hb03:=hb02.out.trans (hb3.mono hb02.out.size);replace hrow3:=iD hrow3;replace hb03:=iD hb03;go_wp2_with fail;go_returns;exact⟨_,_,rfl,hrow3.out,hb03.out⟩
theorem Zlc(A:Option Addr)(n c:Nat)(w:World):(lV 334 1 #[(0,.slice A n c)]).run lA w=.ok (.slice (some ⟨w.heap.size,0,none⟩) 1 1) (w.alloc (.cells #[.slice A n c] 22)):=by kernel_rfl
theorem Zld(ds:Str)(hdl:ds.length=32)(nd cap ib ic:Nat)(pa:Option Addr)(pc:Nat)(rs ri:List Value)(w:World)(hN:Blk w nd 165 (Yd ds (.slice pa 0 pc)++rs))(hI:Blk w ib 59 (ds.map B++ri)) :
  Calls lA 128 #[.slice (some ⟨nd,0,none⟩) 1 cap,.slice (some ⟨ib,0,none⟩) 1 ic] w fun e w'=>∃ A c,e=.returned (.tuple #[.slice A 1 c,.int .i64 0])/\w'.ownsRow w.heap.size 59 32 (.slice A 1 c) 1 (ds.map B)/\Below w.heap.size w w':=by
 have hbe:=iD (Zan ds hdl nd cap w.heap.size 1 1 pa pc rs [.slice (some ⟨ib,0,none⟩) 1 ic] [] rfl (by omega) (w.alloc (.cells #[.slice (some ⟨ib,0,none⟩) 1 ic] 22)) (hN.alloc _) (Blk.new_at (cs:=[.slice (some ⟨ib,0,none⟩) 1 ic]) rfl) (fun v hv=>by
  obtain rfl:v=.slice (some ⟨ib,0,none⟩) 1 ic:=by simpa using hv
  exact .inr ⟨ib,0,ic,rfl,.of (hI.alloc _)⟩))
 have hmk:=O7;have hz1:(w.alloc (.cells #[.slice (some ⟨ib,0,none⟩) 1 ic] 22)).heap.size=w.heap.size+1:=by simp
 rw[hz1] at hbe;replace hN:=iD hN;replace hI:=iD hI;go_enter func128,ntmps128;go_upto_region 1 with fail;refine lJ ?_;refine Y2 (.move (.tmp 0)) rfl rfl (.slice (some ⟨nd,0,none⟩) 1 cap) rfl ?_;go_frame;refine Y2 (.move (.tmp 1)) rfl rfl (.slice (some ⟨ib,0,none⟩) 1 ic) rfl ?_;go_frame;refine J5 rfl _ (Jy 334 (.tmp 13) rfl (.slice (some ⟨ib,0,none⟩) 1 ic) _ rfl (Zlc _ _ _ w)) ?_;go_frame;go_wp2_with fail;refine hbe.out.mono ?_;rintro e w1 ⟨k,b,sb,rfl,hL1,hk,hb,hs,hb1⟩;have hb01:Below w.heap.size w w1:=((lE _ _).alloc (lC _) (.cells #[.slice (some ⟨ib,0,none⟩) 1 ic] 22)).trans (hb1.mono (by omega));have hI1:=hI.out.below hb01 hI.out.lt;have hsz1:=hb01.size;have hsb:=hL1.seen.lt;clear hbe hb1 hN hI hz1;replace hL1:=iD hL1;replace hI1:=iD hI1;replace hb01:=iD hb01;go_upto_region 5 with fail;generalize hW2:lG w1 _=w2;have hb2:Below w1.heap.size w1 w2:=by rw[<-hW2];exact bL
 have hT2:Blk w2 w1.heap.size 4 [.bool false]:=by rw[<-hW2];exact Blk.new_at (cs:=[.bool false]) rfl
 have hL2:=hL1.out.below hb2;have hI2:=hI1.out.below hb2 hI1.out.lt;have hb02:=hb01.out.trans (hb2.mono hb01.out.size);clear hW2 hL1 hI1 hb01 hb2 hmk;replace hL2:=iD hL2;replace hI2:=iD hI2;replace hT2:=iD hT2;replace hb02:=iD hb02;go_wp2_with fail;refine lF 2 ?_;rw[lB];go_upto_region 8 with (first
  | (refine Xj rfl 59 (.tmp 28) rfl ib 0 rfl 59 (ds.map B++ri) (ds.map B) ri hI2.out (by simp) _ underlying59 rfl (Zg hdl) ?_;go_frame)
  | (refine Zd rfl 59 (.tmp 10) (.tmp 29) rfl w2.heap.size (ds.map B) rfl rfl 59 Z2 (Blk.new_at rfl) (by simp[hdl,Z2]) (Zg hdl) (Y5 _) ?_;go_frame)
  | fail)
 generalize hW3:lI _ w2.heap.size _=w3;have hD3:Blk w3 w2.heap.size 59 (ds.map B):=by rw[<-hW3];exact (Blk.new_at (cs:=Z2) rfl).setRow_same (ds.map B)
 have hb3:Below w2.heap.size w2 w3:=by rw[<-hW3];exact below_setRow ((lE _ _).alloc (lC _) (.cells Z2.toArray 59)) (lC _) (ds.map B).toArray
 have hL3:=hL2.out.below hb3;have hT3:=hT2.out.below hb3 hT2.out.lt;have hb03:=hb02.out.trans (hb3.mono hb02.out.size);have k1:w3.cell? ⟨k,1,none⟩=some (.map (some b)):=hL3.look.cell 1;have hD4:Hid (∀ w',(∃ n,w'=w3.drewN n)->Blk w' w2.heap.size 59 (ds.map B)):=iD (by rintro _ ⟨n,rfl⟩;exact hD3.drewN n);have hrun:Hid (∀ w',(∃ n,w'=w3.drewN n)->(lR 41 (.map (some b)) (.agg (ds.map B).toArray) false).run lA w'=.ok (.int .i64 0) w'):=iD (by
  rintro _ ⟨n,rfl⟩;have hM:Z8 (w3.drewN n) b _:=hL3.by_.block rfl;exact hM.look_some Ja underlying41 (by simpa using Xs ds hdl) (Xs ds hdl) (lK.2 rfl) (by simp) false)
 clear hW3 hL2 hI2 hT2 hb02 hb3 hD3;replace hL3:=iD hL3;replace hT3:=iD hT3;replace hb03:=iD hb03;refine Y7 7 (by kernel_rfl) (by kernel_rfl) ?_;simp only[lM,lN,lO,lP];repeat (first
  | go_big_quiet_step (fail)
  | (refine Yq 59 (.tmp 10) rfl rfl w2.heap.size 0 rfl 59 (ds.map B) (ds.map B) [] hD4.out (by simp) _ underlying59 rfl (Zg hdl) ?_;go_frame)
  | (refine Zc (.lookup 41 (.tmp 34) (.tmp 35) false) rfl rfl (.int .i64 0) (fun w' hw'=>Kb 41 (.tmp 34) (.tmp 35) false rfl _ _ _ rfl rfl (hrun.out w' hw')) ?_;go_frame))
 refine lD ?_;rintro _ ⟨nq,rfl⟩;have hbd:Below w3.heap.size w3 (w3.drewN nq):=(Touch.drewN (L:=[]) nq).below (lC _) (fun _ hi=>by cases hi);have hL4:=hL3.out.below hbd;have hT4:=hT3.out.drewN nq;have hb04:=hb03.out.trans (hbd.mono hb03.out.size);clear hL3 hT3 hb03 hbd k1 hD4 hrun;generalize w3.drewN nq=w4 at hL4 hT4 hb04 ⊢;have s0:w4.cell? ⟨w1.heap.size,0,none⟩=some (.bool false):=hT4.cell 0;have sf:=hT4.frozen 0;have i0:(0:Int)<((1:Nat):Int):=by omega
 have hT5:=hT4.set_ 0 (.bool true);have ht5:Touch [w1.heap.size] w4 (w4.setCell ⟨w1.heap.size,0,none⟩ (.bool true)):=Touch.setCell _ (by simp);have hL5:LookAt (w4.setCell ⟨w1.heap.size,0,none⟩ (.bool true)) k nd cap b sb ds false:=by
  obtain⟨pa',pc',rs',hN⟩:=hL4.node;refine⟨hL4.look.touch ht5 (by simpa using hL4.look.ne_ hT4 (by decide)),⟨pa',pc',rs',hN.touch ht5 (by simpa using hN.ne_ hT4 (by decide))⟩,hL4.by_.block (ht5.block b hL4.by_.lt (by simpa using fun e=>hL4.by_.ne_blk hT4 e.symm)),hL4.seen.touch ht5 ?_⟩;simp;omega
 have hb05:=hb04.trans (ht5.below hb04.size (fun i hi=>by simp at hi;omega));clear hL4 hT4 hb04 ht5;replace hT5:=iD hT5;replace hL5:=iD hL5;replace hb05:=iD hb05;go_wp2_with fail;generalize hW5:lS w4 _ _=w5 at hT5 hL5 hb05 ⊢;clear hW5 s0 sf;have hhe:=iD (Zlb ds hdl k nd cap b sb w1.heap.size 1 false w5 hL5.out hT5.out);rw[lB];go_wp2_with fail;refine hhe.out.mono ?_;rintro e w6 ⟨A,c,rfl,hrow,hb6⟩;have hb06:=hb05.out.trans (hb6.mono hb05.out.size);have hrow':=J1 hb05.out.size hrow;clear hhe hrow hb6 hb05 hT5 hL5;replace hrow':=iD hrow';replace hb06:=iD hb06;go_wp2_with fail;go_returns;exact⟨_,_,rfl,hrow'.out,hb06.out⟩
end
section
set_option maxRecDepth 100000
set_option maxHeartbeats 16000000
open Go.Lib renaming hid → iD
open Go.Proofs.Tryz
open Go.RowKit Go.Shelf
def Uv(w:World)(ds:Str)(x:Bool)(v:Value):Prop:=(x=false/\∃ A c,v=.slice A 0 c) ∨ (x=true/\∃ ib io c,v=.slice (some ⟨ib,io,none⟩) 1 c/\Xn w ib io ds)
theorem Uv.touch{w w':World}{L:List Nat}{ds:Str}{x:Bool}{v:Value}(h:Uv w ds x v)(ht:Touch L w w')(hL:∀ i ∈ L,∀ cs,¬ Blk w i 59 cs):Uv w' ds x v:=by
 rcases h with h | ⟨hx,ib,io,c,h1,ic,ri,h2,h3⟩
 ·exact .inl h
 ·exact .inr ⟨hx,ib,io,c,h1,ic,ri,h2.touch ht (fun hm=>hL _ hm _ h2),h3⟩
theorem Uv.below{w w':World}{ds:Str}{x:Bool}{v:Value}(h:Uv w ds x v)(hb:Below w.heap.size w w'):Uv w' ds x v:=h.touch (Touch.ofBelow (L:=[]) hb) (fun _ hi=>by cases hi)
theorem LookAt.touch{w w':World}{L:List Nat}{k nd cap b sb:Nat}{ds:Str}{x:Bool}(h:LookAt w k nd cap b sb ds x)(ht:Touch L w w')(hL:∀ i ∈ L,(∃ t cs,Blk w i t cs/\t ≠ 273/\t ≠ 165)/\i ≠ sb):LookAt w' k nd cap b sb ds x:=by
 obtain⟨pa,pc,rs,hN⟩:=h.node;refine⟨h.look.touch ht (fun hm=>?_),⟨pa,pc,rs,hN.touch ht (fun hm=>?_)⟩,h.by_.block (ht.block b h.by_.lt (fun hm=>?_)),h.seen.touch ht (fun hm=>(hL _ hm).2 rfl)⟩
 ·obtain⟨⟨t,cs,hB,h1,_⟩,_⟩:=hL _ hm;exact hB.ne_ h.look h1 rfl
 ·obtain⟨⟨t,cs,hB,_,h1⟩,_⟩:=hL _ hm;exact hB.ne_ hN h1 rfl
 ·obtain⟨⟨t,cs,hB,_,_⟩,_⟩:=hL _ hm;exact h.by_.ne_blk hB rfl
def Gj(sb:Nat)(A B:World):Prop:=Touch [sb] A B/\(∃ x,Blk A sb 4 [.bool x])/\∃ x,Blk B sb 4 [.bool x]
theorem Gj.marks{sb:Nat}{A B:World}(h:Gj sb A B):KeepM A B :=
 ⟨fun k o ho hm=>Qo h.1 ho (fun hk=>by
  obtain⟨x,hB⟩:=h.2.1;obtain rfl:k=sb:=by simpa using hk
  exact Kk ho hm hB)⟩
def Zao(n:Nat)(vs:Array Value)(_:World):Prop:=vs=#[.int .i64 (n:Int)]
def Gk:Bool->List Nat
 | true=>[0]
 | false=>[]
theorem Zle(k:Nat)(A:Option Addr)(n c:Nat)(w:World):Calls lA 233 #[.pointer (some ⟨k,0,none⟩),.slice A n c] w fun e w'=>e=.returned (.func (.func 291) #[] #[.pointer (some ⟨w.heap.size,0,none⟩),.pointer (some ⟨w.heap.size+1,0,none⟩)])/\Blk w' w.heap.size 238 [.pointer (some ⟨k,0,none⟩)]/\Blk w' (w.heap.size+1) 22 [.slice A n c]/\Below w.heap.size w w':=by
 have hmf:∀ (fn:Fn) (first cap:Array Value) (w:World),(lQ fn first cap).run lA w=.ok (.func fn first cap) w:=fun _ _ _ _=>rfl;go_enter func233,ntmps233;go_wp2_with fail;go_returns;exact⟨rfl,(Blk.new_at (cs:=[.pointer (some ⟨k,0,none⟩)]) rfl).alloc _,Blk.new_at (cs:=[.slice A n c]) (by simp),by go_grown⟩
theorem Zlf(w:World)(ty:TypeId)(sb c:Nat)(y:Bool)(h:Blk w sb 4 [.bool y]) :
  (lZ #[242] ty #[.slice (some ⟨sb,0,none⟩) 1 c]).run lA w=.ok (.tuple #[]) (w.setCell ⟨sb,0,none⟩ (.bool false)):=by
 have hz:(zeroValue 4).run lA w=.ok (.bool false) w:=by kernel_rfl
 have c0:w.cell? ⟨sb,0,none⟩=some (.bool y):=h.cell 0;have f0:=h.frozen 0;have hst:=run_storeCells_cells (P:=lA) sb 0 [.bool false] 0 w (fun j hj=>by
  obtain rfl:j=0:=by simpa using hj
  simpa using (by rw[c0];rfl:(w.cell? ⟨sb,0,none⟩).isSome=true)) (fun j hj=>by
  obtain rfl:j=0:=by simpa using hj
  simpa using f0) (by simp[l0])
 have hzc:(Builtin.zeroCells (l1 false).cells 1).toList=[l1 false]:=by kernel_rfl
 have hst2:(storeCells ⟨sb,0,none⟩ [.bool false]).run lA w=.ok () (w.setCell ⟨sb,0,none⟩ (.bool false)):=hst;simp[lZ,run_underlying underlying242,hz,hzc,hst2]
theorem Zlg(ds:Str)(hdl:ds.length=32)(x y:Bool)(k nd cap b sb x1 x2:Nat)(v:Value)(w:World)(h:LookAt w k nd cap b sb ds y)(hv:Uv w ds x v)(h1:Blk w x1 238 [.pointer (some ⟨k,0,none⟩)])(h2:Blk w x2 22 [v]) :
  Yields 291 #[.pointer (some ⟨x1,0,none⟩),.pointer (some ⟨x2,0,none⟩)] Zao (Gk x) (Gj sb) (fun _ _=>True) w:=by
 intro l J W hb hJ hY h0;have h':=h.below hb;have hv':=hv.below hb;have h1':=h1.below hb h1.lt;have h2':=h2.below hb h2.lt;clear h hv h1 h2 hb w;have cX1:W.cell? ⟨x1,0,none⟩=some (.pointer (some ⟨k,0,none⟩)):=h1'.cell 0;have cK2:W.cell? ⟨k,2,none⟩=some (.slice (some ⟨sb,0,none⟩) 1 1):=h'.look.cell 2;have cS:W.cell? ⟨sb,0,none⟩=some (.bool y):=h'.seen.cell 0;have fS:=h'.seen.frozen 0;replace hY:=iD hY;replace hJ:=iD hJ;replace h0:=iD h0;replace h':=iD h';replace hv':=iD hv';replace h1':=iD h1';replace h2':=iD h2';refine callsIn_of_wp func291 rfl trivial ?_ rfl;simp only[ntmps291,l2,l3,l4,l5,l6,l7,l8,l9,nA,lL,nB];refine wpIn_wide.2 ?_;have hclr:=fun ty=>Zlf W ty sb 1 y h'.out.seen;go_upto_region 1 with fail;have hT1:Touch [sb] W (W.setCell ⟨sb,0,none⟩ (.bool false)):=Touch.setCell _ (by simp);have hS1:=h'.out.seen.set_ 0 (.bool false);have hJ1:=hJ.out _ _ _ h0.out ⟨hT1,⟨y,h'.out.seen⟩,⟨_,hS1⟩⟩;have hnb:∀ t cs,Blk W sb t cs->t=4:=fun t cs hB=>by
  apply Classical.byContradiction;intro hne;exact hB.ne_ h'.out.seen hne rfl
 have h1:LookAt (W.setCell ⟨sb,0,none⟩ (.bool false)) k nd cap b sb ds false:=by
  obtain⟨pa',pc',rs',hN⟩:=h'.out.node;refine⟨h'.out.look.touch hT1 (by simpa using fun e=>h'.out.look.ne_ h'.out.seen (by decide) e),⟨pa',pc',rs',hN.touch hT1 (by simpa using fun e=>hN.ne_ h'.out.seen (by decide) e)⟩,h'.out.by_.block (hT1.block b h'.out.by_.lt (by simpa using fun e=>h'.out.by_.ne_blk h'.out.seen e.symm)),hS1⟩
 have hv1:=hv'.out.touch hT1 (fun i hi cs hB=>by
  obtain rfl:i=sb:=by simpa using hi
  exact absurd (hnb _ _ hB) (by decide))
 have hx1:=h1'.out.touch hT1 (by simpa using fun e=>h1'.out.ne_ h'.out.seen (by decide) e);have hx2:=h2'.out.touch hT1 (by simpa using fun e=>h2'.out.ne_ h'.out.seen (by decide) e);generalize hW1:lS W _ _=W1 at hT1 hS1 hJ1 h1 hv1 hx1 hx2 ⊢;clear hW1 cX1 cK2 cS fS hclr hT1 hS1 h' hv' h1' h2' h0 hnb;have k0:W1.cell? ⟨k,0,none⟩=some (.slice (some ⟨nd,0,none⟩) 1 cap):=h1.look.cell 0;have k2:W1.cell? ⟨k,2,none⟩=some (.slice (some ⟨sb,0,none⟩) 1 1):=h1.look.cell 2;have k1:W1.cell? ⟨k,1,none⟩=some (.map (some b)):=h1.look.cell 1;have s0:W1.cell? ⟨sb,0,none⟩=some (.bool false):=h1.seen.cell 0;have q1:W1.cell? ⟨x1,0,none⟩=some (.pointer (some ⟨k,0,none⟩)):=hx1.cell 0;have q2:W1.cell? ⟨x2,0,none⟩=some v:=hx2.cell 0;rcases hv1 with ⟨rfl,A,c,rfl⟩ | ⟨rfl,ib,io,c,rfl,ic,ri,hI,hid⟩
 ·replace h1:=iD h1;replace hx1:=iD hx1;replace hx2:=iD hx2;replace hJ1:=iD hJ1;go_wp2_with fail;refine lF 1 ?_;rw[lB];go_wp2_with fail;refine lF 2 ?_;rw[lB];go_wp2_with fail;rw[lB];go_wp2_with fail;exact bodyPost_end (v:=.tuple #[]) (results_none (by rfl) _ _ _) rfl ⟨⟨_,rfl⟩,hJ1.out⟩
 ·replace hI:=iD hI;replace hid:=iD hid;replace hJ1:=iD hJ1;replace h1:=iD h1;replace hx1:=iD hx1;replace hx2:=iD hx2;go_wp2_with fail;refine lF 2 ?_;rw[lB];go_upto_region 4 with (first
   | (refine Xj rfl 59 (.tmp 17) rfl ib io rfl 59 ic (ds.map B) ri hI.out hid.out _ underlying59 rfl (Zg hdl) ?_;go_frame)
   | (refine Zd rfl 59 (.tmp 5) (.tmp 18) rfl W1.heap.size (ds.map B) rfl rfl 59 Z2 (Blk.new_at rfl) (by simp[hdl,Z2]) (Zg hdl) (Y5 _) ?_;go_frame)
   | fail)
  generalize hW2:lI _ W1.heap.size _=W2;have hD2:Blk W2 W1.heap.size 59 (ds.map B):=by rw[<-hW2];exact (Blk.new_at (cs:=Z2) rfl).setRow_same (ds.map B)
  have hb2:Below W1.heap.size W1 W2:=by rw[<-hW2];exact below_setRow ((lE _ _).alloc (lC _) (.cells Z2.toArray 59)) (lC _) (ds.map B).toArray
  have h2:=h1.out.below hb2;have hy1:=hx1.out.below hb2 hx1.out.lt;have hT12:Touch [sb] W1 W2:=Touch.ofBelow hb2;clear k0 k1 k2 s0 q1 q2;have k1:W2.cell? ⟨k,1,none⟩=some (.map (some b)):=h2.look.cell 1;have k2:W2.cell? ⟨k,2,none⟩=some (.slice (some ⟨sb,0,none⟩) 1 1):=h2.look.cell 2;have q1:W2.cell? ⟨x1,0,none⟩=some (.pointer (some ⟨k,0,none⟩)):=hy1.cell 0;have hD4:Hid (∀ w',(∃ n,w'=W2.drewN n)->Blk w' W1.heap.size 59 (ds.map B)):=iD (by rintro _ ⟨n,rfl⟩;exact hD2.drewN n);have hrun:Hid (∀ w',(∃ n,w'=W2.drewN n)->(lR 41 (.map (some b)) (.agg (ds.map B).toArray) false).run lA w'=.ok (.int .i64 0) w'):=iD (by
   rintro _ ⟨n,rfl⟩;have hM:Z8 (W2.drewN n) b _:=h2.by_.block rfl;exact hM.look_some Ja underlying41 (by simpa using Xs ds hdl) (Xs ds hdl) (lK.2 rfl) (by simp) false)
  clear hW2 hb2 hD2 hI hx2;replace h2:=iD h2;replace hy1:=iD hy1;replace hT12:=iD hT12;refine Y7 10 (by kernel_rfl) (by kernel_rfl) ?_;simp only[lM,lN,lO,lP];repeat (first
   | go_big_quiet_step (fail)
   | (refine Yq 59 (.tmp 5) rfl rfl W1.heap.size 0 rfl 59 (ds.map B) (ds.map B) [] hD4.out (by simp) _ underlying59 rfl (Zg hdl) ?_;go_frame)
   | (refine Zc (.lookup 41 (.tmp 26) (.tmp 27) false) rfl rfl (.int .i64 0) (fun w' hw'=>Kb 41 (.tmp 26) (.tmp 27) false rfl _ _ _ rfl rfl (hrun.out w' hw')) ?_;go_frame))
  refine lD ?_;rintro _ ⟨nq,rfl⟩;have hbd:Below W2.heap.size W2 (W2.drewN nq):=(Touch.drewN (L:=[]) nq).below (lC _) (fun _ hi=>by cases hi);have h3:=h2.out.below hbd;have hy3:=hy1.out.below hbd hy1.out.lt;have hT13:=hT12.out.trans (Touch.drewN (L:=[sb]) nq) (fun i hi=>.inl hi);clear h2 hy1 hT12 hbd k1 k2 q1 hD4 hrun;generalize W2.drewN nq=W3 at h3 hy3 hT13 ⊢;have s0:W3.cell? ⟨sb,0,none⟩=some (.bool false):=h3.seen.cell 0;have sf:=h3.seen.frozen 0;have i0:(0:Int)<((1:Nat):Int):=by omega
  have ht4:Touch [sb] W3 (W3.setCell ⟨sb,0,none⟩ (.bool true)):=Touch.setCell _ (by simp);have hT14:=hT13.trans ht4 (fun i hi=>.inl hi);have hy4:=hy3.touch ht4 (by simpa using fun e=>hy3.ne_ h3.seen (by decide) e);have h4:LookAt (W3.setCell ⟨sb,0,none⟩ (.bool true)) k nd cap b sb ds true:=by
   obtain⟨pa',pc',rs',hN⟩:=h3.node;exact⟨h3.look.touch ht4 (by simpa using fun e=>h3.look.ne_ h3.seen (by decide) e),⟨pa',pc',rs',hN.touch ht4 (by simpa using fun e=>hN.ne_ h3.seen (by decide) e)⟩,h3.by_.block (ht4.block b h3.by_.lt (by simpa using fun e=>h3.by_.ne_blk h3.seen e.symm)),h3.seen.set_ 0 (.bool true)⟩
  have hJ4:=hJ.out _ _ _ hJ1.out ⟨hT14,⟨_,h1.out.seen⟩,⟨_,h4.seen⟩⟩;clear ht4 hT13 hT14 h3 hy3 hJ1 h1 hx1;replace hy4:=iD hy4;replace h4:=iD h4;replace hJ4:=iD hJ4;go_wp2_with fail;generalize hW4:lS W3 _ _=W4 at hy4 h4 hJ4 ⊢;clear hW4 s0 sf;have k0:W4.cell? ⟨k,0,none⟩=some (.slice (some ⟨nd,0,none⟩) 1 cap):=h4.out.look.cell 0;have k2:W4.cell? ⟨k,2,none⟩=some (.slice (some ⟨sb,0,none⟩) 1 1):=h4.out.look.cell 2;have s0:W4.cell? ⟨sb,0,none⟩=some (.bool true):=h4.out.seen.cell 0;have q1:W4.cell? ⟨x1,0,none⟩=some (.pointer (some ⟨k,0,none⟩)):=hy4.out.cell 0;obtain⟨pa',pc',rs',hN4⟩:=h4.out.node;have n32:=(Z2u hdl hN4).1;clear hN4;rw[lB];go_wp2_with fail;refine lF 2 ?_;rw[lB];go_upto_region 11 with fail;refine lF 1 ?_;rw[lB];go_upto_region 15 with fail;obtain⟨fn,tmps,assign,body,hy,hR⟩:=hY.out [] 0 [] #[.int .i64 0] W4 hJ4.out rfl rfl;clear hY hJ hJ4 h4 hy4 k0 k2 s0 q1 n32;refine (wpIn_wide (n:=0 - 1)).1 ?_
  gi_wp2
  refine⟨rfl,hR.mono ?_⟩;rintro e W5 ⟨rfl,hJ5,_⟩;replace hJ5:=iD hJ5;clear hy hR
  gi_wp2
  go_wp2_with fail;rw[lB];go_wp2_with fail;exact bodyPost_end (v:=.tuple #[]) (results_none (by rfl) _ _ _) rfl ⟨⟨_,rfl⟩,hJ5.out⟩
end
section
set_option maxRecDepth 100000
set_option maxHeartbeats 16000000
open Go.Lib renaming hid → iD
open Go.Proofs.Tryz
open Go.RowKit Go.Shelf
attribute [local go_sem] Oper.semAt_some
theorem Gj.look{A B:World}{k nd cap b sb:Nat}{ds:Str}{z:Bool}(q:Gj sb A B)(h:LookAt A k nd cap b sb ds z):∃ z',LookAt B k nd cap b sb ds z':=by
 obtain⟨hT,_,z',hB⟩:=q;obtain⟨pa,pc,rs,hN⟩:=h.node;exact⟨z',h.look.touch hT (by simpa using fun e=>h.look.ne_ h.seen (by decide) e),⟨pa,pc,rs,hN.touch hT (by simpa using fun e=>hN.ne_ h.seen (by decide) e)⟩,h.by_.block (hT.block b h.by_.lt (by simpa using fun e=>h.by_.ne_blk h.seen e.symm)),hB⟩
theorem LookAt.put{A:World}{k nd cap b sb l:Nat}{ds:Str}{z:Bool}{o:Obj}(h:LookAt A k nd cap b sb ds z)(hl:A.heap[l]?=some o)(hm:J6 o=true)(o':Obj):LookAt (A.putObj l o') k nd cap b sb ds z:=by
 obtain⟨pa,pc,rs,hN⟩:=h.node;refine⟨h.look.put hl hm o',⟨pa,pc,rs,hN.put hl hm o'⟩,h.by_.block (World.putObj_heap_other (fun e=>?_)),h.seen.put hl hm o'⟩;subst e;obtain⟨xs,c,hb,_⟩:=h.by_;rw[hb] at hl
 injection hl with hl
 subst hl;cases hm
structure MkI (w:World) (top k nd cap b sb mb bx:Nat) (ds:Str) (pre:List Nat) (W:World):Prop where
 look:∃ z,LookAt W k nd cap b sb ds z
 tch:Touch [sb] w W
 row:Blk W mb 4 [.bool (decide (pre ≠ []))]
 box:Blk W bx 242 [.slice (some ⟨mb,0,none⟩) 1 1]
 le:top<=W.heap.size
theorem MkI.below{w:World}{top k nd cap b sb mb bx:Nat}{ds:Str}{pre:List Nat}{A B:World}(h:MkI w top k nd cap b sb mb bx ds pre A)(hb:Below A.heap.size A B):MkI w top k nd cap b sb mb bx ds pre B:=by
 obtain⟨z,h1⟩:=h.look;exact⟨⟨z,h1.below hb⟩,h.tch.trans (Touch.ofBelow (L:=[]) hb) (fun _ hi=>by cases hi),h.row.below hb h.row.lt,h.box.below hb h.box.lt,lH h.le hb.size⟩
theorem MkI.put{w:World}{top k nd cap b sb mb bx l:Nat}{ds:Str}{pre:List Nat}{A:World}{o:Obj}(h:MkI w top k nd cap b sb mb bx ds pre A)(ht:w.heap.size<=l)(ho:A.heap[l]?=some o)(hm:J6 o=true)(o':Obj):MkI w top k nd cap b sb mb bx ds pre (A.putObj l o'):=by
 obtain⟨z,h1⟩:=h.look;exact⟨⟨z,h1.put ho hm o'⟩,h.tch.trans (Touch.grown (L:=[l]) (grownBy_putObj' A l o') (fun r e=>by cases e;simp)) (fun i hi=>.inr (by simp at hi;omega)),h.row.put ho hm o',h.box.put ho hm o',by simpa[World.putObj] using h.le⟩
theorem Oi(ds:Str)(hdl:ds.length=32)(x y:Bool)(k nd cap b sb n c:Nat)(A:Option Addr)(w:World)(h:LookAt w k nd cap b sb ds y)(hv:Uv w ds x (.slice A n c)) :
  Calls lA 163 #[.pointer (some ⟨k,0,none⟩),.slice A n c] w fun e w'=>∃ mb z,e=.returned (.slice (some ⟨mb,0,none⟩) 1 1)/\Blk w' mb 4 [.bool x]/\LookAt w' k nd cap b sb ds z/\w.heap.size<=mb/\Touch [sb] w w':=by
 have k0:w.cell? ⟨k,0,none⟩=some (.slice (some ⟨nd,0,none⟩) 1 cap):=h.look.cell 0;have hmk:=O7;have hsb:=h.seen.lt;replace h:=iD h;replace hv:=iD hv;refine Z24 func163 rfl ?_;simp only[ntmps163,l2,l3,l4,l5,l6,l7,l8,l9,nA,lL,nB];go_upto_region 2 with fail;generalize hW1:lG (lG w _) _=w1;have hM1:Blk w1 w.heap.size 4 [.bool false]:=by rw[<-hW1];exact (Blk.new_at (cs:=[.bool false]) rfl).alloc _
 have hX1:Blk w1 (w.heap.size+1) 242 [.slice (some ⟨w.heap.size,0,none⟩) 1 1]:=by rw[<-hW1];exact Blk.new_at (cs:=[.slice (some ⟨w.heap.size,0,none⟩) 1 1]) (by simp)
 have hb1:Below w.heap.size w w1:=by rw[<-hW1];exact bL.alloc (by simp) _
 have h1:=h.out.below hb1;have hv1:=hv.out.below hb1;clear hW1 h hv k0 hmk;replace hM1:=iD hM1;replace hX1:=iD hX1;replace hb1:=iD hb1;replace h1:=iD h1;replace hv1:=iD hv1;have hre:=iD (Zle k A n c w1);go_wp2_with fail;refine hre.out.mono ?_;rintro e w2 ⟨rfl,hA2,hB2,hb2⟩;have hM2:=hM1.out.below hb2 hM1.out.lt;have hX2:=hX1.out.below hb2 hX1.out.lt;have h2:=h1.out.below hb2;have hv2:=hv1.out.below hb2;have hb02:=hb1.out.trans (hb2.mono hb1.out.size);have hY:=Zlg ds hdl x y k nd cap b sb w1.heap.size (w1.heap.size+1) (.slice A n c) w2 h2 hv2 hA2 hB2;have hI2:MkI w w2.heap.size k nd cap b sb w.heap.size (w.heap.size+1) ds [] w2:=⟨⟨_,h2⟩,Touch.ofBelow hb02,hM2,hX2,lC _⟩;have hz2:=hb02.size;clear hre hM1 hX1 hb1 h1 hv1 hA2 hB2 hb2 hM2 hX2 h2 hv2;replace hI2:=iD hI2;replace hY:=iD hY;replace hb02:=iD hb02;go_upto_region 3 with fail;obtain⟨act,hact⟩:∃ act:Value->Act,act=fun v=>{ tmps:=#[.pointer (some ⟨k,0,none⟩),.slice A n c,undef,undef,.slice none 0 0,.pointer (some ⟨w.heap.size+1,0,none⟩),v,.pointer (some ⟨k,0,none⟩),.pointer (some ⟨k,0,none⟩),.pointer (some ⟨k,0,none⟩),.slice (some ⟨nd,0,none⟩) 1 cap,.int .i64 1,.slice (some ⟨w.heap.size,0,none⟩) 1 1,.pointer (some ⟨k,0,none⟩),.slice A n c,.func (.func 291) #[] #[.pointer (some ⟨w1.heap.size,0,none⟩),.pointer (some ⟨w1.heap.size+1,0,none⟩)],v,undef,undef,undef,undef],defers:=[] }:=⟨_,rfl⟩;replace hact:=iD hact;refine Z53 291 #[.pointer (some ⟨w1.heap.size,0,none⟩),.pointer (some ⟨w1.heap.size+1,0,none⟩)] Zao (Gk x) (Gj sb) (fun _ _=>True) rfl (fun _ _=>by simp[go_sem]) (by rintro _ vs W rfl;rfl) hY.out (fun _ _ h=>h.marks) (fun _ _ _ _ _=>trivial) (fun _ _ _ _ _ _ _=>trivial)
  (fun pre W=>MkI w w2.heap.size k nd cap b sb w.heap.size (w.heap.size+1) ds pre W) ?iq ?im ?ia
  (fun pre i a' W=>MkI w w2.heap.size k nd cap b sb w.heap.size (w.heap.size+1) ds pre W/\a'=act (.int .i64 (i:Int))) ?iam ?assign ?body ?done
 case iq =>
  rintro pre A' B' ⟨⟨z,h1⟩,h2,h3,h4,h5⟩ hq;exact⟨hq.look h1,h2.trans hq.1 (fun i hi=>.inl hi),h3.touch hq.1 (by simp;omega),h4.touch hq.1 (by simp;omega),lH h5 hq.1.size⟩
 case im=>exact fun pre A' l o o' h hl ho hm=>h.put (lH hz2 hl) ho hm o'
 case ia=>exact fun o1 o2 _ _=>(hI2.out.below ((lE _ _).alloc (lC _) o1)).below ((lE _ _).alloc (lC _) o2)
 case iam=>exact fun pre x a' A' l o o' ⟨h,e⟩ hl ho hm=>⟨h.put (lH hz2 hl) ho hm o',e⟩
 case assign =>
  rintro l pre i r vs W K hI hpr rfl hK;have hfin:Hid (K (act (.int .i64 (i:Int))) W):=iD (hK _ _ ⟨fun k o h _=>h⟩ trivial ⟨hI,rfl⟩);rw[hact.out] at hfin;clear hK hI
  gi_wp2
  exact hfin.out
 case body =>
  rintro l pre i r a' W ⟨hI,rfl⟩ hpr;obtain⟨rfl,rfl,rfl⟩:x=true/\pre=[]/\i=0:=by
   cases x with
   | false=>cases pre <;> simp[Gk] at hpr
   | true =>
    cases pre with
    | nil=>simp[Gk] at hpr;exact⟨rfl,rfl,hpr.1.symm⟩
    | cons q pre=>exfalso;simp[Gk] at hpr
  rw[hact.out];obtain⟨z,h1⟩:=hI.look;have c5:W.cell? ⟨w.heap.size+1,0,none⟩=some (.slice (some ⟨w.heap.size,0,none⟩) 1 1):=hI.box.cell 0;have s0:W.cell? ⟨w.heap.size,0,none⟩=some (.bool false):=hI.row.cell 0;have sf:=hI.row.frozen 0;have hT:Touch [w.heap.size] W (W.setCell ⟨w.heap.size,0,none⟩ (.bool true)):=Touch.setCell _ (by simp);have hrow:=hI.row.set_ 0 (.bool true);have hbox:=hI.box.touch hT (by simp);have hle:=lH hI.le hT.size;have htc:=hI.tch.trans hT (fun i hi=>.inr (by simp at hi;omega));have hlk:=h1.touch hT (fun i hi=>by
   obtain rfl:i=w.heap.size:=by simpa using hi
   exact⟨⟨_,_,hI.row,by decide,by decide⟩,by omega⟩)
  have hkm:KeepM W (W.setCell ⟨w.heap.size,0,none⟩ (.bool true)):=⟨fun k' o ho hm=>Qo hT ho (fun hk=>by
   obtain rfl:k'=w.heap.size:=by simpa using hk
   exact Kk ho hm hI.row)⟩
  clear hT h1 hI;replace hrow:=iD hrow;replace hbox:=iD hbox;replace hle:=iD hle;replace htc:=iD htc;replace hlk:=iD hlk;replace hkm:=iD hkm;have i0:(0:Int)<((1:Nat):Int):=by omega
  gi_wp2
  exact⟨hkm.out,trivial,⟨z,hlk.out⟩,htc.out,hrow.out,hbox.out,hle.out⟩
 case done =>
  rintro D W hDl hI hDe;have c5:W.cell? ⟨w.heap.size+1,0,none⟩=some (.slice (some ⟨w.heap.size,0,none⟩) 1 1):=hI.box.cell 0;replace hI:=iD hI;replace hDe:=iD hDe;dsimp only;go_wp2_with fail;have hI3:=hI.out.put (lH hz2 hDl) hDe.out rfl (.deferred none);refine Z25 hDe.out _ (results_tmp rfl _ _ _) ⟨_,hI3.look.choose,rfl,?_,hI3.look.choose_spec,lC _,hI3.tch⟩;have hr:=hI3.row;cases x with
  | false=>exact hr
  | true=>exact hr
end
section
set_option maxRecDepth 100000
set_option maxHeartbeats 16000000
open Go.Lib renaming hid → iD
open Go.Proofs.Tryz
open Go.RowKit
theorem Zap(A:Option Addr)(c:Nat)(f:Value)(w:World):Calls lA 177 #[.slice A 0 c,f] w fun e w'=>e=.returned (.int .i64 (-1))/\Below w.heap.size w w':=by
 go_enter func177,ntmps177;go_wp2_with fail;refine lF 1 ?_;rw[lB];go_wp2_with fail;go_returns;exact⟨rfl,lE _ _⟩
theorem Z5e(A:Option Addr)(c:Nat)(f:Value)(w:World):Calls lA 175 #[.slice A 0 c,f] w fun e w'=>e=.returned (.bool false)/\Below w.heap.size w w':=by
 go_enter func175,ntmps175;go_wp2_with fail;refine (Zap _ _ _ _).mono ?_;rintro e w2 ⟨rfl,hb2⟩;go_wp2_with fail;go_returns;exact⟨rfl,hb2⟩
theorem Z5f(ds:Str)(hdl:ds.length=32)(k nd cap b sb ib ic:Nat)(x:Bool)(w:World)(h:LookAt w k nd cap b sb ds x)(hI:Blk w ib 4 [.bool true]) :
  Calls lA 162 #[.pointer (some ⟨k,0,none⟩),.slice (some ⟨ib,0,none⟩) 1 ic] w fun e w'=>∃ A c,e=.returned (.slice A 1 c)/\w'.ownsRow w.heap.size 59 32 (.slice A 1 c) 1 (ds.map B)/\Below w.heap.size w w':=by
 have hmf:∀ (fn:Fn) (first cap:Array Value) (w:World),(lQ fn first cap).run lA w=.ok (.func fn first cap) w:=fun _ _ _ _=>rfl;have hmk:=O7;have hcf:=iD Z5e;have hsb0:=h.seen.lt;have hib0:=hI.lt;generalize hW0:(w.alloc (.cells #[.pointer (some ⟨k,0,none⟩)] 238))=w0;have hb0:Below w.heap.size w w0:=by rw[<-hW0];exact bL
 have hK0:Blk w0 w.heap.size 238 [.pointer (some ⟨k,0,none⟩)]:=by rw[<-hW0];exact Blk.new_at (cs:=[.pointer (some ⟨k,0,none⟩)]) rfl
 have h0:=h.below hb0;have hI0:=hI.below hb0 hI.lt;have hz0:w.heap.size<w0.heap.size:=hK0.lt;clear h hI;have q0:w0.cell? ⟨w.heap.size,0,none⟩=some (.pointer (some ⟨k,0,none⟩)):=hK0.cell 0;have k0:w0.cell? ⟨k,0,none⟩=some (.slice (some ⟨nd,0,none⟩) 1 cap):=h0.look.cell 0;replace h0:=iD h0;replace hI0:=iD hI0;replace hK0:=iD hK0;replace hb0:=iD hb0;go_enter func162,ntmps162;go_upto_region 2 with fail;generalize hW1:lG (lG w0 _) _=w1;have hC1:Blk w1 w0.heap.size 4 [.bool false]:=by rw[<-hW1];exact (Blk.new_at (cs:=[.bool false]) rfl).alloc _
 have hX1:Blk w1 (w0.heap.size+1) 242 [.slice (some ⟨w0.heap.size,0,none⟩) 1 1]:=by rw[<-hW1];exact Blk.new_at (cs:=[.slice (some ⟨w0.heap.size,0,none⟩) 1 1]) (by simp)
 have hb01:Below w0.heap.size w0 w1:=by rw[<-hW1];exact bL.alloc (by simp) _
 have h1:=h0.out.below hb01;have hI1:=hI0.out.below hb01 hI0.out.lt;have hK1:=hK0.out.below hb01 hK0.out.lt;have hb1:=hb0.out.trans (hb01.mono hb0.out.size);clear hW1 h0 hI0 hK0 hb0 hb01 q0 k0 hmk hW0;have q0:w1.cell? ⟨w.heap.size,0,none⟩=some (.pointer (some ⟨k,0,none⟩)):=hK1.cell 0;have k0:w1.cell? ⟨k,0,none⟩=some (.slice (some ⟨nd,0,none⟩) 1 cap):=h1.look.cell 0;replace h1:=iD h1;replace hI1:=iD hI1;replace hK1:=iD hK1;replace hC1:=iD hC1;replace hX1:=iD hX1;replace hb1:=iD hb1;go_wp2_with fail;refine lF 2 ?_;rw[lB];go_upto_region 5 with fail;refine lF 2 ?_;rw[lB];obtain⟨pa,pc,rs,hN1⟩:=h1.out.node;obtain⟨nc,hnc⟩:∃ nc,nc=Yd ds (.slice pa 0 pc):=⟨_,rfl⟩;have hncl:nc.length=33:=by rw[hnc];exact Z0w hdl _
 have hnco:∀ v ∈ nc,v.oneCell'=true:=by rw[hnc];exact Z2e ds pa pc
 have hn32:nc[32]?=some (.slice pa 0 pc):=by rw[hnc];simp[Yd,hdl]
 have hz:Qa.length=33:=by decide
 rw[<-hnc] at hN1;replace hnc:=iD hnc;replace hnco:=iD hnco;replace hn32:=iD hn32;replace hN1:=iD hN1;go_upto_region 7 with (first
  | (refine Xj rfl 165 (.tmp 24) rfl nd 0 rfl 165 (nc++rs) nc rs hN1.out (by simp) _ underlying165 rfl (Og hncl) ?_;go_frame)
  | (refine Zd rfl 165 (.tmp 9) (.tmp 25) rfl w1.heap.size nc rfl rfl 165 Qa (Blk.new_at rfl) (by rw[hz,hncl]) (Og hncl) hnco.out ?_;go_frame)
  | fail)
 generalize hW2:lI _ w1.heap.size nc.toArray=w2;have hV2:Blk w2 w1.heap.size 165 nc:=by rw[<-hW2];exact (Blk.new_at (cs:=Qa) rfl).setRow_same nc
 have hb12:Below w1.heap.size w1 w2:=by rw[<-hW2];exact below_setRow ((lE _ _).alloc (lC _) (.cells Qa.toArray 165)) (lC _) nc.toArray
 have h2:=h1.out.below hb12;have hI2:=hI1.out.below hb12 hI1.out.lt;have hK2:=hK1.out.below hb12 hK1.out.lt;have hC2:=hC1.out.below hb12 hC1.out.lt;have hX2:=hX1.out.below hb12 hX1.out.lt;have hb2:=hb1.out.trans (hb12.mono hb1.out.size);clear hW2 h1 hI1 hK1 hC1 hX1 hb1 hb12 q0 k0 hN1;have i0:w2.cell? ⟨ib,0,none⟩=some (.bool true):=hI2.cell 0;have c5:w2.cell? ⟨w0.heap.size+1,0,none⟩=some (.slice (some ⟨w0.heap.size,0,none⟩) 1 1):=hX2.cell 0;have s0:w2.cell? ⟨w0.heap.size,0,none⟩=some (.bool false):=hC2.cell 0;replace h2:=iD h2;replace hI2:=iD hI2;replace hK2:=iD hK2;replace hC2:=iD hC2;replace hX2:=iD hX2;replace hV2:=iD hV2;replace hb2:=iD hb2;refine Y7 25 (by kernel_rfl) (by kernel_rfl) ?_;simp only[lM,lN,lO,lP];repeat (first | go_big_quiet_step (fail))
 refine lD ?_;rintro _ ⟨nq,rfl⟩;have hbd:Below w2.heap.size w2 (w2.drewN nq):=(Touch.drewN (L:=[]) nq).below (lC _) (fun _ hi=>by cases hi);have h3:=h2.out.below hbd;have hI3:=hI2.out.drewN nq;have hK3:=hK2.out.drewN nq;have hC3:=hC2.out.drewN nq;have hX3:=hX2.out.drewN nq;have hV3:=hV2.out.drewN nq;have hb3:=hb2.out.trans (hbd.mono hb2.out.size);clear h2 hI2 hK2 hC2 hX2 hV2 hb2 hbd i0 c5 s0;generalize w2.drewN nq=w3 at h3 hI3 hK3 hC3 hX3 hV3 hb3 ⊢;have n9:w3.cell? ⟨w1.heap.size,32,none⟩=some (.slice pa 0 pc):=by have:=hV3.cell 32;rwa [hn32.out] at this
 replace h3:=iD h3;replace hI3:=iD hI3;replace hK3:=iD hK3;replace hC3:=iD hC3;replace hX3:=iD hX3;replace hV3:=iD hV3;replace hb3:=iD hb3;go_wp2_with fail;refine (hcf.out _ _ _ _).mono ?_;rintro e w4 ⟨rfl,hb4⟩;have h4:=h3.out.below hb4;have hI4:=hI3.out.below hb4 hI3.out.lt;have hK4:=hK3.out.below hb4 hK3.out.lt;have hC4:=hC3.out.below hb4 hC3.out.lt;have hX4:=hX3.out.below hb4 hX3.out.lt;have hb04:=hb3.out.trans (hb4.mono hb3.out.size);clear h3 hI3 hK3 hC3 hX3 hV3 hb3 hb4 n9;have c5:w4.cell? ⟨w0.heap.size+1,0,none⟩=some (.slice (some ⟨w0.heap.size,0,none⟩) 1 1):=hX4.cell 0;have s0:w4.cell? ⟨w0.heap.size,0,none⟩=some (.bool false):=hC4.cell 0;have sf:=hC4.frozen 0;have hT:Touch [w0.heap.size] w4 (w4.setCell ⟨w0.heap.size,0,none⟩ (.bool true)):=Touch.setCell _ (by simp);have hsb:sb ≠ w0.heap.size:=by omega
 have hib:ib ≠ w0.heap.size:=by omega
 have h5:=h4.touch hT (fun i hi=>by
  obtain rfl:i=w0.heap.size:=by simpa using hi
  exact⟨⟨_,_,hC4,by decide,by decide⟩,fun e=>hsb e.symm⟩)
 have hI5:=hI4.touch hT (by simpa using hib);have hK5:=hK4.touch hT (by simp;omega);have hX5:=hX4.touch hT (by simp);have hC5:=hC4.set_ 0 (.bool true);have hb05:=hb04.trans (hT.below hb04.size (fun i hi=>by simp at hi;omega));clear hT h4 hI4 hK4 hX4 hC4 hb04;replace h5:=iD h5;replace hI5:=iD hI5;replace hK5:=iD hK5;replace hC5:=iD hC5;replace hX5:=iD hX5;replace hb05:=iD hb05;have i1:(0:Int)<((1:Nat):Int):=by omega
 go_wp2_with fail;rw[lB];go_upto_region 14 with fail;generalize hW5:lS w4 _ _=w5 at h5 hI5 hK5 hC5 hX5 hb05 ⊢;clear hW5 c5 s0 sf;have q0:w5.cell? ⟨w.heap.size,0,none⟩=some (.pointer (some ⟨k,0,none⟩)):=hK5.out.cell 0;have k0:w5.cell? ⟨k,0,none⟩=some (.slice (some ⟨nd,0,none⟩) 1 cap):=h5.out.look.cell 0;obtain⟨pa',pc',rs',hN5⟩:=h5.out.node;obtain⟨_,r5,hD5⟩:=Z2u hdl hN5;replace hD5:=iD hD5;clear hN5;refine lJ ?_;go_wp2_with (first
  | (refine Xj rfl 59 (.tmp 75) rfl nd 0 rfl 165 _ (ds.map B) _ hD5.out rfl _ underlying59 rfl (Zg hdl) ?_;go_frame;refine Hid.out ?_)
  | fail)
 refine iD ?_;refine J5 rfl _ (Jy 22 (.tmp 76) rfl (.agg (ds.map B).toArray) _ rfl (Z0r ds hdl w5)) ?_;go_frame;refine Yt _ rfl (.tmp 68) (.tmp 77) 22 rfl w5.heap.size 59 _ 32 32 underlying22 Uh Z0 0 [] rfl ⟨rfl,.inl ⟨rfl,rfl⟩⟩ (fun _=>True) (some ⟨w5.heap.size,0,none⟩) 1 1 (ds.map B) rfl (by simp[hdl]) (Rd.of_blk (cs:=ds.map B) (r:=[]) (Blk.new_at rfl) (by simp) trivial) (Y5 _) (by unfold maxLen;omega) (by omega) (by simp) ?_;intro R w6 hrow hg hv;rw[lT,lL] at hrow;obtain⟨RA,rc,rfl,_,_⟩:=Za hrow;have hb6:Below w5.heap.size w5 w6:=((lE w5.heap.size w5).alloc (lC _) (.cells (ds.map B).toArray 59)).trans (Yo (v:=Z0) (n:=0) (xs:=[]) (e:=59) (size:=32) ⟨rfl,.inl ⟨rfl,rfl⟩⟩ hg (by simp));have h6:=h5.out.below hb6;have hI6:=hI5.out.below hb6 hI5.out.lt;have hK6:=hK5.out.below hb6 hK5.out.lt;have hC6:=hC5.out.below hb6 hC5.out.lt;have hX6:=hX5.out.below hb6 hX5.out.lt;have hb06:=hb05.out.trans (hb6.mono hb05.out.size);have hrow':=J1 hb05.out.size hrow;clear h5 hI5 hK5 hC5 hX5 hb05 hb6 hrow hg hv hD5 q0 k0;have q0:w6.cell? ⟨w.heap.size,0,none⟩=some (.pointer (some ⟨k,0,none⟩)):=hK6.cell 0;have k0:w6.cell? ⟨k,0,none⟩=some (.slice (some ⟨nd,0,none⟩) 1 cap):=h6.look.cell 0;replace h6:=iD h6;replace hI6:=iD hI6;replace hK6:=iD hK6;replace hC6:=iD hC6;replace hX6:=iD hX6;replace hb06:=iD hb06;replace hrow':=iD hrow';go_frame;refine Y2 (.assign (.tmp 78)) rfl rfl (.slice RA 1 rc) rfl ?_;go_frame;refine lU ?_;go_wp2_with fail;rw[lB];go_upto_region 5 with fail;refine lF 2 ?_;rw[lB];clear hnc hn32 hncl hnco;obtain⟨pb,pd,rt,hN6⟩:=h6.out.node;obtain⟨nc2,hnc⟩:∃ nc2,nc2=Yd ds (.slice pb 0 pd):=⟨_,rfl⟩;have hncl:nc2.length=33:=by rw[hnc];exact Z0w hdl _
 have hnco:∀ v ∈ nc2,v.oneCell'=true:=by rw[hnc];exact Z2e ds pb pd
 rw[<-hnc] at hN6;replace hnc:=iD hnc;replace hnco:=iD hnco;replace hN6:=iD hN6;go_upto_region 7 with (first
  | (refine Xj rfl 165 (.tmp 24) rfl nd 0 rfl 165 (nc2++rt) nc2 rt hN6.out (by simp) _ underlying165 rfl (Og hncl) ?_;go_frame)
  | (refine Zd rfl 165 (.tmp 9) (.tmp 25) rfl w6.heap.size nc2 rfl rfl 165 Qa (Blk.new_at rfl) (by rw[hz,hncl]) (Og hncl) hnco.out ?_;go_frame)
  | fail)
 generalize hW7:lI _ w6.heap.size nc2.toArray=w7;have hb7:Below w6.heap.size w6 w7:=by rw[<-hW7];exact below_setRow ((lE _ _).alloc (lC _) (.cells Qa.toArray 165)) (lC _) nc2.toArray
 have hI7:=hI6.out.below hb7 hI6.out.lt;have hC7:=hC6.out.below hb7 hC6.out.lt;have hX7:=hX6.out.below hb7 hX6.out.lt;have hb07:=hb06.out.trans (hb7.mono hb06.out.size);have hrow7:=Zj hrow'.out (Touch.ofBelow (L:=[]) hb7) (fun b hb hm=>by cases hm);clear hW7 h6 hI6 hK6 hC6 hX6 hb06 hrow' hb7 q0 k0 hN6;have i0:w7.cell? ⟨ib,0,none⟩=some (.bool true):=hI7.cell 0;have c5:w7.cell? ⟨w0.heap.size+1,0,none⟩=some (.slice (some ⟨w0.heap.size,0,none⟩) 1 1):=hX7.cell 0;have s0:w7.cell? ⟨w0.heap.size,0,none⟩=some (.bool true):=hC7.cell 0;replace hI7:=iD hI7;replace hC7:=iD hC7;replace hX7:=iD hX7;replace hb07:=iD hb07;replace hrow7:=iD hrow7;refine Y7 25 (by kernel_rfl) (by kernel_rfl) ?_;simp only[lM,lN,lO,lP];repeat (first | go_big_quiet_step (fail))
 refine lD ?_;rintro _ ⟨nr,rfl⟩;have hb08:=hb07.out.trans ((Touch.drewN (L:=[]) nr).below hb07.out.size (fun _ hi=>by cases hi));have hrow8:=Zj hrow7.out (Touch.drewN (L:=[]) nr) (fun b hb hm=>by cases hm);clear hI7 hC7 hX7 hb07 hrow7 i0 c5 s0;generalize w7.drewN nr=w8 at hb08 hrow8 ⊢;replace hb08:=iD hb08;replace hrow8:=iD hrow8;go_wp2_with fail;rw[lB];go_wp2_with fail;go_returns;exact⟨_,_,rfl,hrow8.out,hb08.out⟩
end
section
set_option maxRecDepth 100000
set_option maxHeartbeats 16000000
open Go.Lib renaming hid → iD
open Go.Proofs.Tryz
open Go.RowKit
theorem Z5g{P:Program}{w w':World}{o:Oper}{a:Act}(t:TypeId)(x y:Operand)(ho:o.op=.buildSlice t 2 #[(0,x),(1,y)])(V U r:Value)(hx:a.eval x=V)(hy:a.eval y=U)(h:(lV t 2 #[(0,V),(1,U)]).run P w=.ok r w'):(execOp a.eval o).run P w=.ok (.value r) w':=by
 simp only[execOp,ho,List.map_toArray,lW,lX,hx,hy,Sem.run_bind,h,Result.andThen_ok,Sem.run_pure]
theorem Zaq(A A':Option Addr)(n c n' c':Nat)(w:World):(lV 334 2 #[(0,.slice A n c),(1,.slice A' n' c')]).run lA w=.ok (.slice (some ⟨w.heap.size,0,none⟩) 2 2) (w.alloc (.cells #[.slice A n c,.slice A' n' c'] 22)):=by kernel_rfl
theorem Zar(ds:Str)(hdl:ds.length=32)(nd cap:Nat)(pa:Option Addr)(pc:Nat)(rs:List Value)(A A':Option Addr)(n c n' c':Nat)(w:World)(hN:Blk w nd 165 (Yd ds (.slice pa 0 pc)++rs))(h1:Oh w ds (.slice A n c))(h2:Oh w ds (.slice A' n' c')) :
  Calls lA 161 #[.slice (some ⟨nd,0,none⟩) 1 cap,.slice (some ⟨w.heap.size,0,none⟩) 2 2] (w.alloc (.cells #[.slice A n c,.slice A' n' c'] 22)) fun e w'=>∃ k b sb,e=.returned (.tuple #[.pointer (some ⟨k,0,none⟩),.int .i64 0])/\LookAt w' k nd cap b sb ds false/\w.heap.size<k/\w.heap.size<b/\w.heap.size<sb/\Below w.heap.size w w':=by
 have hba:Below w.heap.size w (w.alloc (.cells #[.slice A n c,.slice A' n' c'] 22)):=bL;refine (Zan ds hdl nd cap w.heap.size 2 2 pa pc rs [.slice A n c,.slice A' n' c'] [] rfl (by omega) _ (hN.alloc _) (Blk.new_at (cs:=[.slice A n c,.slice A' n' c']) rfl) (fun v hv=>?_)).mono ?_
 ·rcases List.mem_cons.1 hv with rfl | hv
  ·exact h1.below hba
  ·obtain rfl:v=.slice A' n' c':=by simpa using hv
   exact h2.below hba
 ·rintro e w' ⟨k,b,sb,rfl,hL,a1,a2,a3,hb⟩;have hz:(w.alloc (.cells #[.slice A n c,.slice A' n' c'] 22)).heap.size=w.heap.size+1:=by simp
  rw[hz] at a1 a2 a3 hb;exact⟨k,b,sb,rfl,hL,by omega,by omega,by omega,hba.trans (hb.mono (by omega))⟩
theorem Zlh(ds:Str)(hdl:ds.length=32)(nd cap ib ic:Nat)(pa:Option Addr)(pc:Nat)(rs ri:List Value)(A:Option Addr)(c:Nat)(w:World)(hN:Blk w nd 165 (Yd ds (.slice pa 0 pc)++rs))(hI:Blk w ib 59 (ds.map B++ri)) :
  Calls lA 97 #[.slice (some ⟨nd,0,none⟩) 1 cap,.slice A 0 c,.slice (some ⟨ib,0,none⟩) 1 ic] w fun e w'=>e=.returned (.tuple #[.bool true,.int .i64 0])/\Below w.heap.size w w':=by
 have hmf:∀ (fn:Fn) (first cap:Array Value) (w:World),(lQ fn first cap).run lA w=.ok (.func fn first cap) w:=fun _ _ _ _=>rfl;have hbe:=iD (Zar ds hdl nd cap pa pc rs A (some ⟨ib,0,none⟩) 0 c 1 ic w hN (.inl ⟨A,c,rfl⟩) (.inr ⟨ib,0,ic,rfl,.of hI⟩));replace hI:=iD hI;clear hN;go_enter func97,ntmps97;go_upto_region 1 with fail;refine lJ ?_;refine Y2 (.move (.tmp 0)) rfl rfl (.slice (some ⟨nd,0,none⟩) 1 cap) rfl ?_;go_frame;refine Y2 (.move (.tmp 1)) rfl rfl (.slice A 0 c) rfl ?_;go_frame;refine Y2 (.move (.tmp 2)) rfl rfl (.slice (some ⟨ib,0,none⟩) 1 ic) rfl ?_;go_frame;refine J5 rfl _ (Z5g 334 (.tmp 13) (.tmp 14) rfl (.slice A 0 c) (.slice (some ⟨ib,0,none⟩) 1 ic) _ rfl rfl (Zaq _ _ _ _ _ _ w)) ?_;go_frame;go_wp2_with fail;refine hbe.out.mono ?_;rintro e w1 ⟨k,b,sb,rfl,hL1,hk,hb,hs,hb1⟩;have hI1:=hI.out.below hb1 hI.out.lt;have hz1:=hb1.size;clear hbe hI;replace hL1:=iD hL1;replace hI1:=iD hI1;replace hb1:=iD hb1;go_upto_region 4 with fail;generalize hW2:lG w1 _=w2;have hX2:Blk w2 w1.heap.size 238 [.pointer (some ⟨k,0,none⟩)]:=by rw[<-hW2];exact Blk.new_at (cs:=[.pointer (some ⟨k,0,none⟩)]) rfl
 have hb12:Below w1.heap.size w1 w2:=by rw[<-hW2];exact bL
 have hL2:=hL1.out.below hb12;have hI2:=hI1.out.below hb12 hI1.out.lt;have hb2:=hb1.out.trans (hb12.mono hz1);have hmk:=iD (Oi ds hdl true false k nd cap b sb 1 ic (some ⟨ib,0,none⟩) w2 hL2 (.inr ⟨rfl,ib,0,ic,rfl,.of hI2⟩));have q0:w2.cell? ⟨w1.heap.size,0,none⟩=some (.pointer (some ⟨k,0,none⟩)):=hX2.cell 0;clear hW2 hL1 hI1 hb1 hb12 hL2 hI2 hX2;replace hb2:=iD hb2;have hcf:=iD (Z5e A c);go_wp2_with fail;refine hmk.out.mono ?_;rintro e w3 ⟨mb,z,rfl,_,_,_,hT3⟩;have hb3:=hb2.out.trans (hT3.below hb2.out.size (fun i hi=>by simp at hi;omega));clear hmk hT3 hb2 q0;replace hb3:=iD hb3;go_upto_region 5 with fail;generalize hW4:lG w3 _=w4;have hb4:Below w.heap.size w w4:=by rw[<-hW4];exact hb3.out.trans ((lE w3.heap.size w3).alloc (lC _) _ |>.mono hb3.out.size)
 clear hW4 hb3;replace hb4:=iD hb4;go_wp2_with fail;refine (hcf.out _ _).mono ?_;rintro e w5 ⟨rfl,hb5⟩;have hb05:=hb4.out.trans (hb5.mono hb4.out.size);replace hb05:=iD hb05;clear hb4 hb5;go_wp2_with fail;go_returns;exact⟨rfl,hb05.out⟩
theorem Zli(ds:Str)(hdl:ds.length=32)(k nd cap b sb pb kb nb:Nat)(z v:Bool)(w:World)(hL:LookAt w k nd cap b sb ds z)(hP:Blk w pb 242 [.slice (some ⟨nb,0,none⟩) 1 1])(hN:Blk w nb 4 [.bool v])(hX:Blk w kb 238 [.pointer (some ⟨k,0,none⟩)]) :
  Calls lA 179 #[.agg (ds.map B).toArray,.pointer (some ⟨pb,0,none⟩),.pointer (some ⟨kb,0,none⟩)] w fun e w'=>e=.returned (.bool v)/\Below w.heap.size w w':=by
 generalize hW1:(w.alloc (.cells (ds.map B).toArray 59))=w1;have hb1:Below w.heap.size w w1:=by rw[<-hW1];exact bL
 have hD1:Blk w1 w.heap.size 59 (ds.map B):=by rw[<-hW1];exact Blk.new_at (cs:=ds.map B) rfl
 have hL1:=hL.below hb1;have p0:w1.cell? ⟨pb,0,none⟩=some (.slice (some ⟨nb,0,none⟩) 1 1):=(hP.below hb1 hP.lt).cell 0;have n0:w1.cell? ⟨nb,0,none⟩=some (.bool v):=(hN.below hb1 hN.lt).cell 0;have x0:w1.cell? ⟨kb,0,none⟩=some (.pointer (some ⟨k,0,none⟩)):=(hX.below hb1 hX.lt).cell 0;have k1:w1.cell? ⟨k,1,none⟩=some (.map (some b)):=hL1.look.cell 1;have hD4:Hid (∀ w',(∃ n,w'=w1.drewN n)->Blk w' w.heap.size 59 (ds.map B)):=iD (by rintro _ ⟨n,rfl⟩;exact hD1.drewN n);have hrun:Hid (∀ w',(∃ n,w'=w1.drewN n)->(lR 41 (.map (some b)) (.agg (ds.map B).toArray) false).run lA w'=.ok (.int .i64 0) w'):=iD (by
  rintro _ ⟨n,rfl⟩;have hM:Z8 (w1.drewN n) b _:=hL1.by_.block rfl;exact hM.look_some Ja underlying41 (by simpa using Xs ds hdl) (Xs ds hdl) (lK.2 rfl) (by simp) false)
 have i0:(0:Int)<((1:Nat):Int):=by omega
 clear hL hP hN hX hD1 hL1;replace hb1:=iD hb1;go_enter func179,ntmps179;go_wp2_with fail;refine Y7 9 (by kernel_rfl) (by kernel_rfl) ?_;simp only[lM,lN,lO,lP];repeat (first
  | go_big_quiet_step (fail)
  | (refine Yq 59 (.tmp 3) rfl rfl w.heap.size 0 rfl 59 (ds.map B) (ds.map B) [] hD4.out (by simp) _ underlying59 rfl (Zg hdl) ?_;go_frame)
  | (refine Zc (.lookup 41 (.tmp 9) (.tmp 10) false) rfl rfl (.int .i64 0) (fun w' hw'=>Kb 41 (.tmp 9) (.tmp 10) false rfl _ _ _ rfl rfl (hrun.out w' hw')) ?_;go_frame))
 refine lD ?_;rintro _ ⟨nq,rfl⟩;go_wp2_with fail;go_returns;exact⟨rfl,hb1.out.trans ((Touch.drewN (L:=[]) nq).below hb1.out.size (fun _ hi=>by cases hi))⟩
theorem Zlj(ds:Str)(hdl:ds.length=32)(f:FuncId)(c1 c2:Nat)(A:Option Addr)(c:Nat)(w:World)(hR:w.ownsRow 0 59 32 (.slice A 1 c) 1 (ds.map B))
  (hcf:∀ args W,(callFunc f args).run lA W=.ok (.enter f args) W) (hf:Calls lA f #[.agg (ds.map B).toArray,.pointer (some ⟨c1,0,none⟩),.pointer (some ⟨c2,0,none⟩)] w fun e w'=>e=.returned (.bool false)/\Below w.heap.size w w') :
  Calls lA 177 #[.slice A 1 c,.func (.func f) #[] #[.pointer (some ⟨c1,0,none⟩),.pointer (some ⟨c2,0,none⟩)]] w fun e w'=>e=.returned (.int .i64 (-1))/\Below w.heap.size w w':=by
 obtain⟨g,r,rfl,_,hB,_⟩:=Uo hR (by omega);replace hB:=iD hB;replace hf:=iD hf;clear hR;go_enter func177,ntmps177;go_wp2_with fail;refine lF 2 ?_;rw[lB];go_wp2_with (first
  | (refine Xj rfl 59 (.tmp 14) rfl g 0 rfl 59 (ds.map B++r) (ds.map B) r hB.out (by simp) _ underlying59 rfl (Zg hdl) ?_;go_frame)
  | fail)
 refine hf.out.mono ?_;rintro e w2 ⟨rfl,hb2⟩;go_wp2_with fail;rw[lB];go_wp2_with fail;go_returns;exact⟨rfl,hb2⟩
theorem Zlk(ds:Str)(hdl:ds.length=32)(f:FuncId)(c1 c2:Nat)(A:Option Addr)(c:Nat)(w:World)(hR:w.ownsRow 0 59 32 (.slice A 1 c) 1 (ds.map B))
  (hcf:∀ args W,(callFunc f args).run lA W=.ok (.enter f args) W) (hf:Calls lA f #[.agg (ds.map B).toArray,.pointer (some ⟨c1,0,none⟩),.pointer (some ⟨c2,0,none⟩)] w fun e w'=>e=.returned (.bool false)/\Below w.heap.size w w') :
  Calls lA 99 #[.slice A 1 c,.func (.func f) #[] #[.pointer (some ⟨c1,0,none⟩),.pointer (some ⟨c2,0,none⟩)]] w fun e w'=>e=.returned (.slice A 1 c)/\Below w.heap.size w w':=by
 have hi:=iD (Zlj ds hdl f c1 c2 A c w hR hcf hf);clear hR hcf hf;go_enter func99,ntmps99;go_wp2_with fail;refine hi.out.mono ?_;rintro e w2 ⟨rfl,hb2⟩;go_wp2_with fail;go_returns;exact⟨rfl,hb2⟩
theorem Zll(ds:Str)(hdl:ds.length=32)(nd cap ib io ic:Nat)(pa:Option Addr)(pc:Nat)(rs:List Value)(A:Option Addr)(c:Nat)(w:World)(hN:Blk w nd 165 (Yd ds (.slice pa 0 pc)++rs))(hI:Xn w ib io ds) :
  Calls lA 104 #[.slice (some ⟨nd,0,none⟩) 1 cap,.slice (some ⟨ib,io,none⟩) 1 ic,.slice A 0 c] w fun e w'=>∃ RA rc,e=.returned (.tuple #[.slice RA 1 rc,.int .i64 0])/\w'.ownsRow w.heap.size 59 32 (.slice RA 1 rc) 1 (ds.map B)/\Below w.heap.size w w':=by
 have hmf:∀ (fn:Fn) (first cap:Array Value) (w:World),(lQ fn first cap).run lA w=.ok (.func fn first cap) w:=fun _ _ _ _=>rfl;have hbe:=iD (Zar ds hdl nd cap pa pc rs (some ⟨ib,io,none⟩) A 1 ic 0 c w hN (.inr ⟨ib,io,ic,rfl,hI⟩) (.inl ⟨A,c,rfl⟩));replace hI:=iD hI;clear hN;go_enter func104,ntmps104;go_upto_region 1 with fail;refine lJ ?_;refine Y2 (.move (.tmp 0)) rfl rfl (.slice (some ⟨nd,0,none⟩) 1 cap) rfl ?_;go_frame;refine Y2 (.move (.tmp 1)) rfl rfl (.slice (some ⟨ib,io,none⟩) 1 ic) rfl ?_;go_frame;refine Y2 (.move (.tmp 2)) rfl rfl (.slice A 0 c) rfl ?_;go_frame;refine J5 rfl _ (Z5g 334 (.tmp 14) (.tmp 15) rfl (.slice (some ⟨ib,io,none⟩) 1 ic) (.slice A 0 c) _ rfl rfl (Zaq _ _ _ _ _ _ w)) ?_;go_frame;go_wp2_with fail;refine hbe.out.mono ?_;rintro e w1 ⟨k,b,sb,rfl,hL1,hk,hb,hs,hb1⟩;have hI1:=hI.out.below hb1 hI.out.lt;have hz1:=hb1.size;clear hbe hI;replace hL1:=iD hL1;replace hI1:=iD hI1;replace hb1:=iD hb1;go_upto_region 4 with fail;generalize hW2:lG w1 _=w2;have hX2:Blk w2 w1.heap.size 238 [.pointer (some ⟨k,0,none⟩)]:=by rw[<-hW2];exact Blk.new_at (cs:=[.pointer (some ⟨k,0,none⟩)]) rfl
 have hb12:Below w1.heap.size w1 w2:=by rw[<-hW2];exact bL
 have hL2:=hL1.out.below hb12;have hI2:=hI1.out.below hb12 hI1.out.lt;have hb2:=hb1.out.trans (hb12.mono hz1);have hsb:=hL2.seen.lt;clear hW2 hL1 hI1 hb1 hb12;replace hb2:=iD hb2;replace hL2:=iD hL2;replace hI2:=iD hI2;replace hX2:=iD hX2;go_cut [10,11] from 23 to 30 (fun v p wx=>∃ RA rc pb nb z,v=.slice RA 1 rc/\p=.pointer (some ⟨pb,0,none⟩)/\Blk wx pb 242 [.slice (some ⟨nb,0,none⟩) 1 1]/\Blk wx nb 4 [.bool false]/\Blk wx w1.heap.size 238 [.pointer (some ⟨k,0,none⟩)]/\LookAt wx k nd cap b sb ds z/\wx.ownsRow w2.heap.size 59 32 (.slice RA 1 rc) 1 (ds.map B)/\Touch [sb] w2 wx)
 case first =>
  obtain⟨PS,hPS⟩:∃ PS:World->Prop,∀ y,PS y ↔ Blk y w1.heap.size 238 [.pointer (some ⟨k,0,none⟩)]:=⟨_,fun _=>Iff.rfl⟩;have s0:∀ y:Cls PS,y.1.cell? ⟨w1.heap.size,0,none⟩=some (.pointer (some ⟨k,0,none⟩)):=fun y=>((hPS _).1 y.2).cell 0;have hd0:(w2.drewN 1).heap.size=w2.heap.size:=rfl;have X0:=hX2.out.drewN 1;have L0:LookAt (w2.drewN 1) k nd cap b sb ds false:=hL2.out.below (lE _ _).drew;have I0:=hI2.out.drewN 1;have T0:Touch [sb] w2 (w2.drewN 1):=Touch.drewN 1;have s4:PS w2.drew:=(hPS _).2 X0;haveI : Nonempty (Cls PS):=⟨⟨_,s4⟩⟩;replace hPS:=iD hPS;refine Z0t (fun w'=>∃ y:Cls PS,w'=y.1) (.two [0,1,2,5,6] 3 (.two [] 4 (.two [] 7 (.one [] 8 (.tail [])) 8 (.one [] 7 (.tail []))) 8 (.one [] 4 (.one [] 7 (.tail [])))) 8 (.one [] 3 (.one [] 4 (.one [] 7 (.tail []))))) 9 [10] (by kernel_rfl) (by kernel_rfl) (fun _ d _ _ _ h=>by cases d <;> exact h) ⟨⟨_,s4⟩,rfl⟩ ?_;simp only[Vg,Ur,Z7,lW,lX,Zo,Zn];repeat (first | go_big_quiet_step (fail))
  refine lD ?_;refine⟨?_,?_⟩
  ·skip
   intro K hK;go_simp;refine (Oi ds hdl true _ k nd cap b sb 1 ic (some ⟨ib,io,none⟩) _ L0 (.inr ⟨rfl,ib,io,ic,rfl,I0⟩)).mono ?_;rintro e y1 ⟨mb,z1,rfl,M1,L1,hmb,H1⟩;have X1:=X0.touch H1 (by simpa using fun e=>X0.ne_ L0.seen (by decide) e);have I1:=I0.touch H1 (by simpa using fun e=>I0.ne_ L0.seen (by decide) e);have T1:=T0.trans H1 (fun i hi=>.inl hi);have hz1:=T1.size;refine hK _ _ ⟨⟨_,(hPS.out _).2 X1⟩,rfl⟩ ?_;clear hK;refine lD ?_;refine⟨?_,?_⟩
   ·skip
    intro K hK;go_simp;refine (Z5f ds hdl k nd cap b sb mb 1 _ _ L1 M1).mono ?_;rintro e y2 ⟨RA,rc,rfl,R_,B2⟩;have H2:Touch [sb] _ _:=Touch.ofBelow B2;have L2:=L1.below B2;have hw2:=T1.size;have R2:=J1 hw2 R_;have X2:=X1.touch H2 (by simpa using fun e=>X1.ne_ L1.seen (by decide) e);have I2:=I1.touch H2 (by simpa using fun e=>I1.ne_ L1.seen (by decide) e);have T2:=T1.trans H2 (fun i hi=>.inl hi);have M2:=M1.touch H2 (by simp;omega);have hz2:=T2.size;refine hK _ _ ⟨⟨_,(hPS.out _).2 X2⟩,rfl⟩ ?_;clear hK;refine lD ?_;refine⟨?_,?_⟩
    ·skip
     intro K hK;go_simp;refine (Oi ds hdl false _ k nd cap b sb 0 c A _ L2 (.inl ⟨rfl,A,c,rfl⟩)).mono ?_;rintro e y3 ⟨nb,z3,rfl,N3,L3,hnb,H3⟩;have X3:=X2.touch H3 (by simpa using fun e=>X2.ne_ L2.seen (by decide) e);have I3:=I2.touch H3 (by simpa using fun e=>I2.ne_ L2.seen (by decide) e);have T3:=T2.trans H3 (fun i hi=>.inl hi);have M3:=M2.touch H3 (by simp;omega);have R3:=Zj R2 H3 (fun b hb hm=>by
      have h1:=Ys R2 L2.seen (by decide);obtain rfl:b=sb:=by simpa using hm
      exact h1 hb.symm)
     have hz3:=T3.size;refine hK _ _ ⟨⟨_,(hPS.out _).2 X3⟩,rfl⟩ ?_;clear hK;refine lD ?_;intro K hK;go_simp;obtain⟨y4,hy4⟩:∃ y,y=(y3).alloc (.cells #[Z0] 242):=⟨_,rfl⟩;have P4:Blk y4 (y3).heap.size 242 [Z0]:=by rw[hy4];exact Blk.new_at (cs:=[Z0]) rfl
     have B4:Below (y3).heap.size (y3) y4:=by rw[hy4];exact bL
     have H4:Touch [sb] _ _:=Touch.ofBelow B4;have L4:=L3.below B4;have hp4:=T3.size;have X4:=X3.touch H4 (by simpa using fun e=>X3.ne_ L3.seen (by decide) e);have I4:=I3.touch H4 (by simpa using fun e=>I3.ne_ L3.seen (by decide) e);have T4:=T3.trans H4 (fun i hi=>.inl hi);have M4:=M3.touch H4 (by simp;omega);have R4:=Zj R3 H4 (fun b hb hm=>by
      have h1:=Ys R3 L3.seen (by decide);obtain rfl:b=sb:=by simpa using hm
      exact h1 hb.symm)
     have N4:=N3.touch H4 (by simp;omega);have hz4:=T4.size;rw[<-hy4];obtain⟨pb,hpb⟩:∃ pb,pb=(y3).heap.size:=⟨_,rfl⟩;rw[<-hpb] at P4 ⊢;have hpb1:w2.heap.size<=pb:=by rw[hpb];exact hp4
     clear hy4 hpb;refine hK _ _ ⟨⟨_,(hPS.out _).2 X4⟩,rfl⟩ ?_;clear hK;refine lD ?_
     change wpList _ _ _ _ _ y4
     have g0:y4.cell? ⟨pb,0,none⟩=some Z0:=P4.cell 0;have g1:=P4.frozen 0;have F:=Touch.setCell (L:=[pb]) (w:=y4) (g:=pb) (i:=0) (.slice (some ⟨nb,0,none⟩) 1 1) (by simp);have Pz:=iD (P4.set_ 0 (.slice (some ⟨nb,0,none⟩) 1 1));have Nz:=iD (N4.touch F (by simpa using fun e=>N4.ne_ P4 (by decide) e));have Xz:=iD (X4.touch F (by simpa using fun e=>X4.ne_ P4 (by decide) e));have Lz:=iD (L4.touch F (fun i hi=>by
      obtain rfl:i=pb:=by simpa using hi
      exact⟨⟨_,_,P4,by decide,by decide⟩,by omega⟩))
     have Rz:=iD (Zj R4 F (fun b hb hm=>by
      have h1:=Ys R4 P4 (by decide);obtain rfl:b=pb:=by simpa using hm
      exact h1 hb.symm))
     have Tz:=iD (T4.trans F (fun i hi=>.inr (by simp at hi;omega)));clear F;go_wp2_with fail;go_meet;exact⟨RA,rc,pb,nb,_,rfl,rfl,Pz.out,Nz.out,Xz.out,Lz.out,Rz.out,Tz.out⟩
    ·skip
     intro K hK;go_simp;obtain⟨y5,hy5⟩:∃ y,y=(y2).alloc (.cells #[Z0] 242):=⟨_,rfl⟩;have P5:Blk y5 (y2).heap.size 242 [Z0]:=by rw[hy5];exact Blk.new_at (cs:=[Z0]) rfl
     have B5:Below (y2).heap.size (y2) y5:=by rw[hy5];exact bL
     have H5:Touch [sb] _ _:=Touch.ofBelow B5;have L5:=L2.below B5;have hp5:=T2.size;have X5:=X2.touch H5 (by simpa using fun e=>X2.ne_ L2.seen (by decide) e);have I5:=I2.touch H5 (by simpa using fun e=>I2.ne_ L2.seen (by decide) e);have T5:=T2.trans H5 (fun i hi=>.inl hi);have M5:=M2.touch H5 (by simp;omega);have R5:=Zj R2 H5 (fun b hb hm=>by
      have h1:=Ys R2 L2.seen (by decide);obtain rfl:b=sb:=by simpa using hm
      exact h1 hb.symm)
     have hz5:=T5.size;rw[<-hy5];obtain⟨pb,hpb⟩:∃ pb,pb=(y2).heap.size:=⟨_,rfl⟩;rw[<-hpb] at P5 ⊢;have hpb1:w2.heap.size<=pb:=by rw[hpb];exact hp5
     clear hy5 hpb;refine hK _ _ ⟨⟨_,(hPS.out _).2 X5⟩,rfl⟩ ?_;clear hK;refine lD ?_;intro K hK;go_simp;refine (Oi ds hdl false _ k nd cap b sb 0 c A _ L5 (.inl ⟨rfl,A,c,rfl⟩)).mono ?_;rintro e y6 ⟨nb,z6,rfl,N6,L6,hnb,H6⟩;have X6:=X5.touch H6 (by simpa using fun e=>X5.ne_ L5.seen (by decide) e);have I6:=I5.touch H6 (by simpa using fun e=>I5.ne_ L5.seen (by decide) e);have T6:=T5.trans H6 (fun i hi=>.inl hi);have M6:=M5.touch H6 (by simp;omega);have R6:=Zj R5 H6 (fun b hb hm=>by
      have h1:=Ys R5 L5.seen (by decide);obtain rfl:b=sb:=by simpa using hm
      exact h1 hb.symm)
     have P6:=P5.touch H6 (by simp;omega);have hz6:=T6.size;refine hK _ _ ⟨⟨_,(hPS.out _).2 X6⟩,rfl⟩ ?_;clear hK;refine lD ?_
     change wpList _ _ _ _ _ y6
     have g0:y6.cell? ⟨pb,0,none⟩=some Z0:=P6.cell 0;have g1:=P6.frozen 0;have F:=Touch.setCell (L:=[pb]) (w:=y6) (g:=pb) (i:=0) (.slice (some ⟨nb,0,none⟩) 1 1) (by simp);have Pz:=iD (P6.set_ 0 (.slice (some ⟨nb,0,none⟩) 1 1));have Nz:=iD (N6.touch F (by simpa using fun e=>N6.ne_ P6 (by decide) e));have Xz:=iD (X6.touch F (by simpa using fun e=>X6.ne_ P6 (by decide) e));have Lz:=iD (L6.touch F (fun i hi=>by
      obtain rfl:i=pb:=by simpa using hi
      exact⟨⟨_,_,P6,by decide,by decide⟩,by omega⟩))
     have Rz:=iD (Zj R6 F (fun b hb hm=>by
      have h1:=Ys R6 P6 (by decide);obtain rfl:b=pb:=by simpa using hm
      exact h1 hb.symm))
     have Tz:=iD (T6.trans F (fun i hi=>.inr (by simp at hi;omega)));clear F;go_wp2_with fail;go_meet;exact⟨RA,rc,pb,nb,_,rfl,rfl,Pz.out,Nz.out,Xz.out,Lz.out,Rz.out,Tz.out⟩
   ·skip
    intro K hK;go_simp;obtain⟨y7,hy7⟩:∃ y,y=(y1).alloc (.cells #[Z0] 242):=⟨_,rfl⟩;have P7:Blk y7 (y1).heap.size 242 [Z0]:=by rw[hy7];exact Blk.new_at (cs:=[Z0]) rfl
    have B7:Below (y1).heap.size (y1) y7:=by rw[hy7];exact bL
    have H7:Touch [sb] _ _:=Touch.ofBelow B7;have L7:=L1.below B7;have hp7:=T1.size;have X7:=X1.touch H7 (by simpa using fun e=>X1.ne_ L1.seen (by decide) e);have I7:=I1.touch H7 (by simpa using fun e=>I1.ne_ L1.seen (by decide) e);have T7:=T1.trans H7 (fun i hi=>.inl hi);have M7:=M1.touch H7 (by simp;omega);have hz7:=T7.size;rw[<-hy7];obtain⟨pb,hpb⟩:∃ pb,pb=(y1).heap.size:=⟨_,rfl⟩;rw[<-hpb] at P7 ⊢;have hpb1:w2.heap.size<=pb:=by rw[hpb];exact hp7
    clear hy7 hpb;refine hK _ _ ⟨⟨_,(hPS.out _).2 X7⟩,rfl⟩ ?_;clear hK;refine lD ?_;intro K hK;go_simp;refine (Z5f ds hdl k nd cap b sb mb 1 _ _ L7 M7).mono ?_;rintro e y8 ⟨RA,rc,rfl,R_,B8⟩;have H8:Touch [sb] _ _:=Touch.ofBelow B8;have L8:=L7.below B8;have hw8:=T7.size;have R8:=J1 hw8 R_;have X8:=X7.touch H8 (by simpa using fun e=>X7.ne_ L7.seen (by decide) e);have I8:=I7.touch H8 (by simpa using fun e=>I7.ne_ L7.seen (by decide) e);have T8:=T7.trans H8 (fun i hi=>.inl hi);have M8:=M7.touch H8 (by simp;omega);have P8:=P7.touch H8 (by simp;omega);have hz8:=T8.size;refine hK _ _ ⟨⟨_,(hPS.out _).2 X8⟩,rfl⟩ ?_;clear hK;refine lD ?_;intro K hK;go_simp;refine (Oi ds hdl false _ k nd cap b sb 0 c A _ L8 (.inl ⟨rfl,A,c,rfl⟩)).mono ?_;rintro e y9 ⟨nb,z9,rfl,N9,L9,hnb,H9⟩;have X9:=X8.touch H9 (by simpa using fun e=>X8.ne_ L8.seen (by decide) e);have I9:=I8.touch H9 (by simpa using fun e=>I8.ne_ L8.seen (by decide) e);have T9:=T8.trans H9 (fun i hi=>.inl hi);have M9:=M8.touch H9 (by simp;omega);have R9:=Zj R8 H9 (fun b hb hm=>by
     have h1:=Ys R8 L8.seen (by decide);obtain rfl:b=sb:=by simpa using hm
     exact h1 hb.symm)
    have P9:=P8.touch H9 (by simp;omega);have hz9:=T9.size;refine hK _ _ ⟨⟨_,(hPS.out _).2 X9⟩,rfl⟩ ?_;clear hK;refine lD ?_
    change wpList _ _ _ _ _ y9
    have g0:y9.cell? ⟨pb,0,none⟩=some Z0:=P9.cell 0;have g1:=P9.frozen 0;have F:=Touch.setCell (L:=[pb]) (w:=y9) (g:=pb) (i:=0) (.slice (some ⟨nb,0,none⟩) 1 1) (by simp);have Pz:=iD (P9.set_ 0 (.slice (some ⟨nb,0,none⟩) 1 1));have Nz:=iD (N9.touch F (by simpa using fun e=>N9.ne_ P9 (by decide) e));have Xz:=iD (X9.touch F (by simpa using fun e=>X9.ne_ P9 (by decide) e));have Lz:=iD (L9.touch F (fun i hi=>by
     obtain rfl:i=pb:=by simpa using hi
     exact⟨⟨_,_,P9,by decide,by decide⟩,by omega⟩))
    have Rz:=iD (Zj R9 F (fun b hb hm=>by
     have h1:=Ys R9 P9 (by decide);obtain rfl:b=pb:=by simpa using hm
     exact h1 hb.symm))
    have Tz:=iD (T9.trans F (fun i hi=>.inr (by simp at hi;omega)));clear F;go_wp2_with fail;go_meet;exact⟨RA,rc,pb,nb,_,rfl,rfl,Pz.out,Nz.out,Xz.out,Lz.out,Rz.out,Tz.out⟩
  ·skip
   intro K hK;go_simp;obtain⟨y10,hy10⟩:∃ y,y=(w2.drewN 1).alloc (.cells #[Z0] 242):=⟨_,rfl⟩;have P10:Blk y10 w2.heap.size 242 [Z0]:=by rw[hy10];exact Blk.new_at (cs:=[Z0]) rfl
   have B10:Below (w2.drewN 1).heap.size (w2.drewN 1) y10:=by rw[hy10];exact bL
   have H10:Touch [sb] _ _:=Touch.ofBelow B10;have L10:=L0.below B10;have hp10:=T0.size;have X10:=X0.touch H10 (by simpa using fun e=>X0.ne_ L0.seen (by decide) e);have I10:=I0.touch H10 (by simpa using fun e=>I0.ne_ L0.seen (by decide) e);have T10:=T0.trans H10 (fun i hi=>.inl hi);have hz10:=T10.size;rw[show (w2.alloc (.cells #[Value.slice none 0 0] 242)).drew=y10 by rw[hy10];rfl];obtain⟨pb,hpb⟩:∃ pb,pb=w2.heap.size:=⟨_,rfl⟩;rw[<-hpb] at P10 ⊢;have hpb1:w2.heap.size<=pb:=by rw[hpb];exact hp10
   clear hy10 hpb;refine hK _ _ ⟨⟨_,(hPS.out _).2 X10⟩,rfl⟩ ?_;clear hK;refine lD ?_;intro K hK;go_simp;refine (Oi ds hdl true _ k nd cap b sb 1 ic (some ⟨ib,io,none⟩) _ L10 (.inr ⟨rfl,ib,io,ic,rfl,I10⟩)).mono ?_;rintro e y11 ⟨mb,z11,rfl,M11,L11,hmb,H11⟩;have X11:=X10.touch H11 (by simpa using fun e=>X10.ne_ L10.seen (by decide) e);have I11:=I10.touch H11 (by simpa using fun e=>I10.ne_ L10.seen (by decide) e);have T11:=T10.trans H11 (fun i hi=>.inl hi);have P11:=P10.touch H11 (by simp;omega);have hz11:=T11.size;refine hK _ _ ⟨⟨_,(hPS.out _).2 X11⟩,rfl⟩ ?_;clear hK;refine lD ?_;intro K hK;go_simp;refine (Z5f ds hdl k nd cap b sb mb 1 _ _ L11 M11).mono ?_;rintro e y12 ⟨RA,rc,rfl,R_,B12⟩;have H12:Touch [sb] _ _:=Touch.ofBelow B12;have L12:=L11.below B12;have hw12:=T11.size;have R12:=J1 hw12 R_;have X12:=X11.touch H12 (by simpa using fun e=>X11.ne_ L11.seen (by decide) e);have I12:=I11.touch H12 (by simpa using fun e=>I11.ne_ L11.seen (by decide) e);have T12:=T11.trans H12 (fun i hi=>.inl hi);have M12:=M11.touch H12 (by simp;omega);have P12:=P11.touch H12 (by simp;omega);have hz12:=T12.size;refine hK _ _ ⟨⟨_,(hPS.out _).2 X12⟩,rfl⟩ ?_;clear hK;refine lD ?_;intro K hK;go_simp;refine (Oi ds hdl false _ k nd cap b sb 0 c A _ L12 (.inl ⟨rfl,A,c,rfl⟩)).mono ?_;rintro e y13 ⟨nb,z13,rfl,N13,L13,hnb,H13⟩;have X13:=X12.touch H13 (by simpa using fun e=>X12.ne_ L12.seen (by decide) e);have I13:=I12.touch H13 (by simpa using fun e=>I12.ne_ L12.seen (by decide) e);have T13:=T12.trans H13 (fun i hi=>.inl hi);have M13:=M12.touch H13 (by simp;omega);have R13:=Zj R12 H13 (fun b hb hm=>by
    have h1:=Ys R12 L12.seen (by decide);obtain rfl:b=sb:=by simpa using hm
    exact h1 hb.symm)
   have P13:=P12.touch H13 (by simp;omega);have hz13:=T13.size;refine hK _ _ ⟨⟨_,(hPS.out _).2 X13⟩,rfl⟩ ?_;clear hK;refine lD ?_
   change wpList _ _ _ _ _ y13
   have g0:y13.cell? ⟨pb,0,none⟩=some Z0:=P13.cell 0;have g1:=P13.frozen 0;have F:=Touch.setCell (L:=[pb]) (w:=y13) (g:=pb) (i:=0) (.slice (some ⟨nb,0,none⟩) 1 1) (by simp);have Pz:=iD (P13.set_ 0 (.slice (some ⟨nb,0,none⟩) 1 1));have Nz:=iD (N13.touch F (by simpa using fun e=>N13.ne_ P13 (by decide) e));have Xz:=iD (X13.touch F (by simpa using fun e=>X13.ne_ P13 (by decide) e));have Lz:=iD (L13.touch F (fun i hi=>by
    obtain rfl:i=pb:=by simpa using hi
    exact⟨⟨_,_,P13,by decide,by decide⟩,by omega⟩))
   have Rz:=iD (Zj R13 F (fun b hb hm=>by
    have h1:=Ys R13 P13 (by decide);obtain rfl:b=pb:=by simpa using hm
    exact h1 hb.symm))
   have Tz:=iD (T13.trans F (fun i hi=>.inr (by simp at hi;omega)));clear F;go_wp2_with fail;go_meet;exact⟨RA,rc,pb,nb,_,rfl,rfl,Pz.out,Nz.out,Xz.out,Lz.out,Rz.out,Tz.out⟩
 case rest =>
  obtain⟨RA,rc,pb,nb,z,rfl,rfl,hP,hN,hX,hL,hR,hT⟩:=hcut;have hb3:=hb2.out.trans (hT.below hb2.out.size (fun i hi=>by simp at hi;omega));have hR3:=J1 hb2.out.size hR;clear hT hR hL2 hI2 hX2 hb2;have hdel:=iD (Zlk ds hdl 179 pb w1.heap.size RA rc wc (J1 (Nat.zero_le _) hR3) (fun _ _=>by simp[go_sem]) (Zli ds hdl k nd cap b sb pb w1.heap.size nb z false wc hL hP hN hX));replace hb3:=iD hb3;replace hR3:=iD hR3;clear hP hN hX hL;go_wp2_with fail;refine hdel.out.mono ?_;rintro e w4 ⟨rfl,hb4⟩;have hb04:=hb3.out.trans (hb4.mono hb3.out.size);have hR4:=Zj hR3.out (Touch.ofBelow (L:=[]) hb4) (fun b hb hm=>by cases hm);clear hb3 hR3 hb4 hdel;replace hb04:=iD hb04;replace hR4:=iD hR4;go_wp2_with fail;go_returns;exact⟨_,_,rfl,hR4.out,hb04.out⟩
end
section
set_option maxRecDepth 100000
set_option maxHeartbeats 16000000
open Go.Lib renaming hid → iD
open Go.Proofs.Tryz
open Go.RowKit
theorem Zav(a t:Str)(o:Value)(ok:Nat->Prop)(lb lc:Nat)(rest:List Value)(w:World)(h:Zl w ok o (chain t))(ha:Z6 a=true)(ht:t.length<=1000)(hK:Zm w)(hL:Blk w lb 154 (Z5 a o++rest)) :
  Calls lA 83 #[.slice (some ⟨lb,0,none⟩) 1 lc] w fun e w'=>∃ nd cap pa pc rs,e=.returned (.tuple #[.slice (some ⟨nd,0,none⟩) 1 cap,.int .i64 0])/\Blk w' nd 165 (Yd (idT a t) (.slice pa 0 pc)++rs)/\w.heap.size<=nd/\Below w.heap.size w w':=by
 have hr:=iD (Z4p a t o ok lb lc rest w h ha ht hK hL);clear h hK hL;go_enter func83,ntmps83;go_wp2_with fail;refine hr.out.mono ?_;rintro e w1 ⟨qb,nd,cap,pa,pc,rs,rfl,_,hN,_,hnd,hb1⟩;have hlt:=hN.lt;replace hN:=iD hN;go_wp2_with fail;go_returns;exact⟨nd,cap,pa,pc,rs,rfl,hN.out.alloc _,hnd,hb1.alloc hb1.size _⟩
theorem Zly(a t:Str)(o:Value)(ok:Nat->Prop)(lb lc:Nat)(rest:List Value)(w:World)(h:Zl w ok o (chain t))(ha:Z6 a=true)(ht:t.length<=1000)(hK:Zm w)(hL:Blk w lb 154 (Z5 a o++rest)) :
  Calls lA 213 #[.slice (some ⟨lb,0,none⟩) 1 lc] w fun e w'=>e=.returned (.tuple #[.int .i64 0,.int .i64 0])/\Below w.heap.size w w':=by
 have hr:=iD (Z4p a t o ok lb lc rest w h ha ht hK hL);clear h hK hL;go_enter func213,ntmps213;go_wp2_with fail;refine hr.out.mono ?_;rintro e w1 ⟨qb,nd,cap,pa,pc,rs,rfl,_,hN,_,hnd,hb1⟩;go_wp2_with fail;go_returns;exact⟨rfl,hb1.alloc hb1.size _⟩
theorem Zlz(A:Option Addr)(c:Nat)(f:Value)(w:World):Calls lA 99 #[.slice A 0 c,f] w fun e w'=>e=.returned (.slice A 0 c)/\Below w.heap.size w w':=by
 have hi:=iD (Zap A c f w);go_enter func99,ntmps99;go_wp2_with fail;refine hi.out.mono ?_;rintro e w2 ⟨rfl,hb2⟩;go_wp2_with fail;go_returns;exact⟨rfl,hb2⟩
theorem Zaw(n ds:Str)(hdl:ds.length=32)(hn:Z6 n=true)(OA:Option Addr)(on oc r lb lc:Nat)(rest:List Value)(by_ rb g:Nat)(ra a:Str)(br:Bool)(d b v:Value)(ok:Nat->Prop)(w:World)(hR:Blk w r 47 (Y1 (.slice (some ⟨lb,0,none⟩) 1 lc) by_ rb g ra br))(hB:Blk w rb 267 [d,v,b])(h:TabIs w ok v (Xm n ds))
  (hM:Z8 w by_ [(.agg (ds.map B).toArray,.int .i64 0)]) (hL:Blk w lb 154 (Z5 a (.slice OA on oc)++rest)) :
  Calls lA 82 #[.pointer (some ⟨r,0,none⟩)] w fun e w'=>∃ ob ocp rs,e=.returned (.slice (some ⟨ob,0,none⟩) 1 ocp)/\Blk w' ob 154 (Z5 a (.slice OA on oc)++rs)/\w.heap.size<=ob/\Below w.heap.size w w':=by
 refine (Z9d r _ by_ rb g ra br d b v (Xm n ds) ok w hR hB h (Z0n hn hdl) (Z4z hdl) (by simp) (fun o w'=>∃ ob ocp rs,o=.slice (some ⟨ob,0,none⟩) 1 ocp/\Blk w' ob 154 (Z5 a (.slice OA on oc)++rs)/\w.heap.size<=ob) (fun A c W hb hrow=>?_)).mono ?_
 ·obtain⟨ib,ic,ri,hv,hib,hI⟩:=Ui hrow
  injection hv with e1 e2 e3
  subst e1;refine (Zip ds a hdl OA on oc r by_ lb lc ib c rest ri W ((hb.cell (p:=⟨r,0,none⟩) hR.lt).trans (hR.cell 0)) ((hb.cell (p:=⟨r,1,none⟩) hR.lt).trans (hR.cell 1)) (hM.below hb hM.lt) (hL.below hb hL.lt) (by simpa[Zv] using hI)).mono ?_;rintro e W' ⟨ob,ocp,rs,rfl,hO,hob,hb'⟩;exact⟨_,_,_,rfl,⟨ob,ocp,rs,rfl,hO,lH hb.size hob⟩,hb'⟩
 ·rintro e w' ⟨o,n,oc,rfl,⟨ob,ocp,rs,ho,hO,hob⟩,hb⟩;exact⟨ob,ocp,rs,by rw[ho],hO,hob,hb⟩
theorem Zm0(ra n a t:Str)(hn:Z6 n=true)(ha:Z6 a=true)(ht:t.length<=1000)(OA:Option Addr)(on oc r lb lc:Nat)(rest:List Value)(by_ rb g:Nat)(br:Bool)(d b v:Value)(ok:Nat->Prop)(w:World)(hR:Blk w r 47 (Y1 (.slice (some ⟨lb,0,none⟩) 1 lc) by_ rb g ra br))(hB:Blk w rb 267 [d,v,b])(h:TabIs w ok v (Xm n (idT a t)))
  (hM:Z8 w by_ [(.agg ((idT a t).map B).toArray,.int .i64 0)]) (hL:Blk w lb 154 (Z5 a (.slice OA on oc)++rest)) (hO:Zl w (· < w.heap.size) (.slice OA on oc) (chain t)) (hK:Zm w) :
  Calls lA 27 #[.pointer (some ⟨r,0,none⟩),Z1 n] w fun e w'=>e=.returned (.tuple #[Z1 t,.int .i64 0])/\Below w.heap.size w w':=by
 have hdl:=Q4 a t;have hg:Yb (Xm n (idT a t)) n=[idT a t]:=by simp[Yb]
 have hv:=Zit r _ by_ rb g ra n br d b v _ ok w hR hB h (Z0n hn hdl) (by simp[J4]) (by rw[hg];simp);rw[hg] at hv;have hp:=iD (fun W (hb:Below w.heap.size w W)=>Zaw n (idT a t) hdl hn OA on oc r lb lc rest by_ rb g ra a br d b v _ W (hR.below hb hR.lt) (hB.below hb hB.lt) (h.stayB hb) (hM.below hb hM.lt) (hL.below hb hL.lt));have hx:=iD (fun lb lc ib ic rest ri W (hb:Below w.heap.size w W) hK hL hI=>Zhv a t (.slice OA on oc) lb lc ib ic rest ri W (hO.stay (fun b _ hlt=>hb.block b hlt) (fun b h _=>Nat.lt_of_lt_of_le h hb.size)) ha ht hK hL hI);clear hR hB h hM hL hg;unfold Z1 at hv hx ⊢;replace hv:=iD hv;go_enter func27,ntmps27;go_wp2_with fail;refine hv.out.mono ?_;rintro e w1 ⟨V,rfl,hrow,hb1⟩;obtain⟨ib,ic,ri,rfl,hib,hI⟩:=Ui hrow;have hI':=iD hI;clear hI hrow;go_wp2_with fail;refine (hp.out w1 hb1).mono ?_;rintro e w2 ⟨ob,ocp,rs,rfl,hO2,hob,hb2⟩;have hI2:=iD (hI'.out.below hb2 hI'.out.lt);have hb2':=hb1.trans (hb2.mono hb1.size);have hK2:Zm w2:=fun i hi=>(hb2'.cell (World.block_lt_of_cell? _ _ (hK i hi))).trans (hK i hi);go_wp2_with fail;refine (hx.out _ _ _ _ _ _ _ hb2' hK2 hO2 (by simpa[Zv] using hI2.out)).mono ?_;rintro e w3 ⟨rfl,hb3⟩;go_wp2_with fail;go_returns;exact⟨rfl,hb2'.trans (hb3.mono hb2'.size)⟩
theorem Zm1(n a t:Str)(hn:Z6 n=true)(ha:Z6 a=true)(ht:t.length<=1000)(OA:Option Addr)(on oc r lb lc ib io ic:Nat)(rest:List Value)(by_ rb g:Nat)(ra:Str)(br:Bool)(d b v:Value)(ok:Nat->Prop)(w:World)(hR:Blk w r 47 (Y1 (.slice (some ⟨lb,0,none⟩) 1 lc) by_ rb g ra br))(hB:Blk w rb 267 [d,v,b])(h:TabIs w ok v (Xm n (idT a t)))
  (hM:Z8 w by_ [(.agg ((idT a t).map B).toArray,.int .i64 0)]) (hL:Blk w lb 154 (Z5 a (.slice OA on oc)++rest)) (hO:Zl w (· < w.heap.size) (.slice OA on oc) (chain t)) (hI:Xn w ib io (idT a t)) (hK:Zm w) :
  Calls lA 33 #[.pointer (some ⟨r,0,none⟩),.slice (some ⟨ib,io,none⟩) 1 ic,Z0] w fun e w'=>e=.returned (.tuple #[.string ⟨(Xb (Yk (Ym a t))).toArray⟩,.int .i64 0])/\Below w.heap.size w w':=by
 have hmf:∀ (fn:Fn) (first cap:Array Value) (w:World),(lQ fn first cap).run lA w=.ok (.func fn first cap) w:=fun _ _ _ _=>rfl;have hdl:=Q4 a t;have hmd:=iD (Gi r _ by_ rb g ra br w hR);have hpa:=iD (Zaw n (idT a t) hdl hn OA on oc r lb lc rest by_ rb g ra a br d b v ok w hR hB h hM hL);have hno:=iD (fun ob ocp rs W (hb:Below w.heap.size w W) hL=>Zav a t (.slice OA on oc) _ ob ocp rs W (hO.stay (fun b _ hlt=>hb.block b hlt) (fun b hlt _=>hlt)) ha ht (keys_below hK hb) hL);have hen:=iD (fun W (hb:Below w.heap.size w W)=>Z4d a t (.slice OA on oc) _ W (hO.stay (fun b _ hlt=>hb.block b hlt) (fun b hlt _=>hlt)) ha ht);have hel:=Gl a t ha ht;obtain⟨xs,hxs⟩:∃ xs,xs=Yk (Ym a t):=⟨_,rfl⟩;have hpw:=iD (fun A c W (hb:Below w.heap.size w W) hR=>Zka xs (by rw[hxs];omega) A c W hR (keys_below hK hb));rw[<-hxs] at hen hel ⊢;obtain⟨ds,hds⟩:∃ ds,ds=idT a t:=⟨_,rfl⟩;rw[<-hds] at hno hM hI hdl;have hcn:=iD Z51;have hdn:=iD Zlz;replace hxs:=iD hxs;replace hds:=iD hds;replace hR:=iD hR;replace hM:=iD hM;replace hL:=iD hL;replace hI:=iD hI;clear hB h hK hO;go_enter func33,ntmps33;go_wp2_with fail;refine hmd.out.mono ?_;rintro e wz ⟨rfl,hwz⟩;rw[hwz];clear hwz wz;go_wp2_with fail;refine hpa.out.mono ?_;rintro e w1 ⟨ob,ocp,rs,rfl,hO1,hob,hb1⟩;go_wp2_with fail;refine (hno.out _ _ _ w1 hb1 hO1).mono ?_;rintro e w2 ⟨nd,cap,pa,pc,qs,rfl,hN2,hnd,hb2⟩;have hb02:=hb1.trans (hb2.mono hb1.size);clear hpa hno hmd hb1 hb2 hO1;replace hN2:=iD hN2;replace hb02:=iD hb02;go_upto_region 5 with fail;generalize hW3:lG w2 _=w3;have hX3:Blk w3 w2.heap.size 141 [.slice (some ⟨nd,0,none⟩) 1 cap]:=by rw[<-hW3];exact Blk.new_at (cs:=[.slice (some ⟨nd,0,none⟩) 1 cap]) rfl
 have hb3:Below w2.heap.size w2 w3:=by rw[<-hW3];exact bL
 have hN3:=hN2.out.below hb3 hN2.out.lt;have hb03:=hb02.out.trans (hb3.mono hb02.out.size);clear hW3 hN2 hb02 hb3;replace hN3:=iD hN3;replace hX3:=iD hX3;replace hb03:=iD hb03;go_wp2_with fail;refine (hcn.out _).mono ?_;rintro e wz ⟨rfl,hwz⟩;rw[hwz];clear hwz wz;go_wp2_with fail;refine (hdn.out _ _ _ _).mono ?_;rintro e w4 ⟨rfl,hb4⟩;have hN4:=hN3.out.below hb4 hN3.out.lt;have hX4:=hX3.out.below hb4 hX3.out.lt;have hb04:=hb03.out.trans (hb4.mono hb03.out.size);have hI4:=hI.out.below hb04 hI.out.lt;have hlk:=iD (Zll ds hdl nd cap ib io ic pa pc qs none 0 w4 hN4 hI4);have x0:w4.cell? ⟨w2.heap.size,0,none⟩=some (.slice (some ⟨nd,0,none⟩) 1 cap):=hX4.cell 0;clear hN3 hX3 hb03 hb4 hN4 hX4 hI4 hcn hdn;replace hb04:=iD hb04;go_wp2_with fail;refine hlk.out.mono ?_;rintro e w5 ⟨RA,rc,rfl,hrow5,hb5⟩;obtain⟨db,dr,rfl,_,hD5,_⟩:=Uo hrow5 (by omega);have hb05:=hb04.out.trans (hb5.mono hb04.out.size);clear hlk x0 hb04 hb5 hrow5;replace hD5:=iD hD5;replace hb05:=iD hb05;go_wp2_with fail;refine lF 2 ?_;rw[lB];go_upto_region 15 with (first
  | (refine Xj rfl 59 (.tmp 49) rfl db 0 rfl 59 (ds.map B++dr) (ds.map B) dr hD5.out (by simp) _ underlying59 rfl (Zg hdl) ?_;go_frame)
  | (refine Zd rfl 59 (.tmp 15) (.tmp 50) rfl w5.heap.size (ds.map B) rfl rfl 59 Z2 (Blk.new_at rfl) (by simp[hdl,Z2]) (Zg hdl) (Y5 _) ?_;go_frame)
  | fail)
 generalize hW6:lI _ w5.heap.size _=w6;have hD6:Blk w6 w5.heap.size 59 (ds.map B):=by rw[<-hW6];exact (Blk.new_at (cs:=Z2) rfl).setRow_same (ds.map B)
 have hb6:Below w5.heap.size w5 w6:=by rw[<-hW6];exact below_setRow ((lE _ _).alloc (lC _) (.cells Z2.toArray 59)) (lC _) (ds.map B).toArray
 have hb06:=hb05.out.trans (hb6.mono hb05.out.size);have hR6:=hR.out.below hb06 hR.out.lt;have hM6:=hM.out.below hb06 hM.out.lt;have hL6:=hL.out.below hb06 hL.out.lt;clear hW6 hD5 hb05 hb6;obtain⟨PS,hPS⟩:∃ PS:World->Prop,∀ y,PS y ↔ Below w6.heap.size w6 y:=⟨_,fun _=>Iff.rfl⟩;have s0:∀ y:Cls PS,y.1.cell? ⟨r,0,none⟩=some (.slice (some ⟨lb,0,none⟩) 1 lc):=fun y=>(hR6.below ((hPS _).1 y.2) hR6.lt).cell 0;have s1:∀ y:Cls PS,y.1.cell? ⟨r,1,none⟩=some (.map (some by_)):=fun y=>(hR6.below ((hPS _).1 y.2) hR6.lt).cell 1;have s2:Hid (∀ w',(∃ y:Cls PS,w'=y.1)->Blk w' w5.heap.size 59 (ds.map B)):=iD (by rintro _ ⟨y,rfl⟩;exact hD6.below ((hPS _).1 y.2) hD6.lt);have s3:Hid (∀ w',(∃ y:Cls PS,w'=y.1)->Blk w' lb 154 (Z5 a (.slice OA on oc)++rest)):=iD (by rintro _ ⟨y,rfl⟩;exact hL6.below ((hPS _).1 y.2) hL6.lt);have hrun:Hid (∀ w',(∃ y:Cls PS,w'=y.1)->(lR 41 (.map (some by_)) (.agg (ds.map B).toArray) false).run lA w'=.ok (.int .i64 0) w'):=iD (by
  rintro _ ⟨y,rfl⟩;exact (hM6.below ((hPS _).1 y.2) hM6.lt).look_some Ja underlying41 (by simpa using Xs ds hdl) (Xs ds hdl) (lK.2 rfl) (by simp) false)
 have s4:PS w6.drew:=(hPS _).2 (lE _ _).drew;haveI : Nonempty (Cls PS):=⟨⟨_,s4⟩⟩;have i0:(0:Int)<((1:Nat):Int):=by omega
 replace hPS:=iD hPS;replace hb06:=iD hb06;clear hD6 hR6 hM6 hL6;refine Yh (fun w'=>∃ y:Cls PS,w'=y.1) [([0,1,2,3,4,5,6,7,8,9,10,11,12,13],14)] [15,16,17,18] 19 [] (by kernel_rfl) (by kernel_rfl) (fun _ d _ _ _ h=>by cases d <;> exact h) ⟨⟨_,s4⟩,rfl⟩ ?_;simp only[Y4,Z7,lW,lX,Zo,Zn];repeat (first
  | go_big_quiet_step (fail)
  | (refine Yq 59 (.tmp 15) rfl rfl w5.heap.size 0 rfl 59 (ds.map B) (ds.map B) [] s2.out (by simp) _ underlying59 rfl (Zg hdl) ?_;go_frame)
  | (refine Zc (.lookup 41 (.tmp 61) (.tmp 62) false) rfl rfl (.int .i64 0) (fun w' hw'=>Kb 41 (.tmp 61) (.tmp 62) false rfl _ _ _ rfl rfl (hrun.out w' hw')) ?_;go_frame))
 refine Yq 154 (.tmp 64) rfl rfl lb 0 rfl 154 (Z5 a (.slice OA on oc)++rest) (Z5 a (.slice OA on oc)) rest s3.out rfl _ underlying154 rfl (Ky _ _) ?_;go_frame;refine lD ?_;intro K hK;go_simp;refine (hen.out _ (hb06.out.trans (lE _ _).drew)).mono ?_;rintro e w7 ⟨V7,rfl,hrow7,hb7⟩;have hb67:=(lE _ _).drew.trans hb7;obtain⟨EA,ec,rfl,_,_⟩:=Za hrow7;have hb07:=hb06.out.trans (hb67.mono hb06.out.size);have hE7:=iD (K1 hrow7);refine hK _ _ ⟨⟨_,(hPS.out _).2 hb67⟩,rfl⟩ ?_;clear hK hPS hb06 hb7 hb67 hen hrun s0 s1 s2 s3 s4 hrow7;replace hb07:=iD hb07;repeat (first | go_big_quiet_step (fail))
 refine lD ?_;have hz7:=hb07.out.size;go_upto_region 16 with fail;refine lJ ?_;refine Y2 (.move (.tmp 13)) rfl rfl Z0 rfl ?_;go_frame;refine Y2 (.move (.tmp 16)) rfl rfl (.slice EA xs.length ec) rfl ?_;go_frame;refine Qf rfl 57 9 (.tmp 70) rfl 5 underlying57 underlying5 underlying9 EA xs ec rfl hE7.out ?_;go_frame;refine J5 rfl _ (Jy 169 (.tmp 71) rfl (.string ⟨xs.toArray⟩) _ rfl (Zab _ w7)) ?_;go_frame;refine Yt _ rfl (.tmp 69) (.tmp 72) 169 rfl w.heap.size 9 _ 1 16 underlying169 Zac Z0 0 [] rfl ⟨rfl,.inl ⟨rfl,rfl⟩⟩ (fun _=>True) (some ⟨w7.heap.size,0,none⟩) 1 1 [.string ⟨xs.toArray⟩] rfl (by simp) (Rd.of_blk (cs:=[.string ⟨xs.toArray⟩]) (r:=[]) (Blk.new_at rfl) (by simp) trivial) (by simp[l0]) (by unfold maxLen;omega) (by omega) (by simp;omega) ?_;intro V8 w8 hrow8 hg8 hv8;rw[lT,lL] at hrow8;have hb8:Below w7.heap.size w7 w8:=((lE w7.heap.size w7).alloc (lC _) (.cells #[.string ⟨xs.toArray⟩] 9)).trans (Yo (v:=Z0) (n:=0) (xs:=[]) (e:=9) (size:=1) ⟨rfl,.inl ⟨rfl,rfl⟩⟩ hg8 (by simp));obtain⟨SA,sc,rfl,_,_⟩:=Za hrow8;have hb08:=hb07.out.trans (hb8.mono hz7);have hp:=hpw.out SA sc w8 hb08 ((K1 hrow8).weak (fun b hlt _=>hlt));clear hg8 hv8 hb8 hrow8 hE7 hb07 hpw;replace hb08:=iD hb08;replace hp:=iD hp;go_frame;refine Y2 (.assign (.tmp 73)) rfl rfl (.slice SA 1 sc) rfl ?_;go_frame;refine lU ?_;go_wp2_with fail;rw[lB];go_wp2_with fail;refine hp.out.mono ?_;rintro e w9 ⟨rfl,hb9⟩;go_wp2_with fail;go_returns;exact⟨rfl,hb08.out.trans (hb9.mono hb08.out.size)⟩
end
section
set_option maxRecDepth 100000
set_option maxHeartbeats 4000000
open Go.Lib renaming hid → iD
open Go.Proofs.Tryz
open Go.RowKit Go.Maps Go.MapKept Go.ChangeMaps
section
variable {P:Program} {w:World} {b:Nat} {k e t:TypeId} {ok:Value->Prop} {key v:Value}
theorem Y9.del_one(h:Y9 w b [(key,v)])(K:KeyOk P k ok)(ht:P.underlying t=some (.map k e))(hk:ok key)(ty:TypeId) :
  ∃ w',(Builtin.delete_ #[t,k] ty #[.map (some b),key]).run P w=.ok (.tuple #[]) w'/\Y9 w' b []/\w.mapTurned w' b:=by
 obtain⟨xs,clock,hb,h2,h3,h4⟩:=h;obtain⟨x,rfl⟩:∃ x,xs=#[x]:=by
  rcases xs with ⟨l⟩
  match l,h2 with
  | [x],_=>exact⟨x,rfl⟩
 have h5:x.key=key:=by simpa using congrArg (fun l=>(l.head?.map Prod.fst)) h2
 have hl:b<w.heap.size:=(Array.getElem?_eq_some_iff.1 hb).1;rcases K.find w key hk [x] (by simp[h5,hk]) with ⟨_,h1⟩ | ⟨j,y,h1,h6,_⟩
 ·exact absurd h5 (h1 x (by simp))
 ·obtain rfl:j=0:=by
   rcases j with _ | j
   ·rfl
   ·simp at h6
  refine⟨setBlock w b (.map #[] clock),?_,⟨#[],clock,?_,rfl,by simp,by simp⟩,⟨_,clock,#[],clock,hb,rfl⟩⟩
  ·simp[Builtin.delete_,run_underlying ht,MapKept.run_getObj_map hb,K.check w false key hk,h1,MapKept.run_setObj_map _ hb,nC,setBlock]
  ·simp[setBlock,hl]
theorem Zm2{ops:Array Oper}{rest:List Oper}{o:Oper}{a:Act}{Q:Exit->Act->World->Prop}(hg:o.guard=none)(m x:Operand)(hop:o.op=Op.call { callee:=Callee.builtin Builtin.delete,args:=#[m,x],argTypes:=#[t,k] })
  (e:TypeId) (K:KeyOk P k ok) (ht:P.underlying t=some (.map k e)) (b:Nat) (v:Value) (hm:a.eval m=.map (some b)) (key:Value) (hx:a.eval x=key) (hk:ok key) (h:Y9 w b [(key,v)])
  (hK:∀ w',Y9 w' b []->Touch [b] w w'->wpList P ops Q rest (a.put o.dst (.tuple #[])) w'):wpList P ops Q (o :: rest) a w:=by
 refine wpList_plain hg fun K' hK'=>?_;obtain⟨w',hrun,r1,r2⟩:=h.del_one K ht hk o.type;unfold Oper.wp;simp[execOp,hop,resolve,invoke,builtin,hm,hx,hrun,nC];exact hK' _ _ (hK w' r1 (Kz r2))
end
theorem Zm3(mb kb:Nat)(w:World)(hM:Y9 w mb []) :
  Calls lA 211 #[.map (some mb),.pointer (some ⟨kb,0,none⟩)] w fun e w'=>e=.returned (.bool false)/\Below w.heap.size w w':=by
 replace hM:=iD hM;go_enter func211,ntmps211;go_upto_region 3 with fail;generalize hW1:lG w _=w1;have hb1:Below w.heap.size w w1:=by rw[<-hW1];exact bL
 have hM1:=hM.out.below hb1 hM.out.lt;clear hW1 hM;replace hM1:=iD hM1;go_wp2_with (first
  | (at_range;refine Z54 rfl (.tmp 9) 190 rfl 59 154 underlying190 mb _ rfl hM1.out ?_;intro w3 hI3 hb3;replace hI3:=iD hI3;replace hb3:=iD hb3;go_frame)
  | fail)
 refine lF 1 ?_;rw[lB];go_wp2_with (first
  | (at_next;refine Z0q rfl (.tmp 10) rfl _ mb _ _ rfl hI3.out (fun _=>?_) (fun pre p post w' h=>by cases pre <;> simp at h);go_frame)
  | fail)
 go_returns;exact⟨rfl,hb1.trans (hb3.out.mono hb1.size)⟩
end
end Go.Proofs.YtefjlobdifjogaaGreatDoor
