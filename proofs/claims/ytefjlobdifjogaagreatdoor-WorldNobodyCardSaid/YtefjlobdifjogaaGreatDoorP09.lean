import Derived.Test.YtefjlobdifjogaaGreatDoorP07
import Derived.Test.YtefjlobdifjogaaGreatDoorP08
open Go renaming wpQuiet_nil → lI
open Go.Obj renaming cells → lD
open Go.Proofs.Tryz renaming prog → lC
open Go.RowKit.Below renaming refl → lG
open Go.Value renaming oneCell' → lH
open Go.World renaming alloc → lB
open List renaming length_append → lA, length_cons → lF, length_nil → lK
open Nat renaming le_refl → lE, zero_add → lJ
namespace Go.Proofs.YtefjlobdifjogaaGreatDoor
section
set_option maxRecDepth 100000
set_option maxHeartbeats 1000000
open Go.Lib renaming hid → iD
open Go.Proofs.Tryz
open Go.RowKit
def Z5(a:Str)(o:Value):List Value:=[.slice none 0 0,.string ⟨a.toArray⟩,.string ⟨#[]⟩,o]
theorem nmOk_len'{s:Str}(h:Z6 s=true):s.length<=24:=by
 simp only[Z6,Bool.and_eq_true,decide_eq_true_eq] at h;exact h.2
theorem Z8h(a t:Str)(o:Value)(ok:Nat->Prop)(w:World)(h:Zl w ok o (chain t))(ha:Z6 a=true)(ht:t.length<=2000) :
  Calls lC 180 #[.agg (Z5 a o).toArray] w fun e w'=>e=.returned (.int .i64 0)/\Below w.heap.size w w':=by
 have hal:=nmOk_len' ha;have hnm:=fun W=>Vr a W (by omega);unfold Z1 at hnm;simp only[ha] at hnm;replace hnm:=iD hnm;have hlt:=Jq t 0;obtain⟨OA,c,rfl,hc,hr⟩:=h;have hO:Hid (Zl w ok (.slice OA (chain t).length c) (chain t)):=iD ⟨OA,c,rfl,hc,hr⟩;rw[show (chain t).length=t.length from hlt] at *;clear hr hc;unfold Z5;go_enter func180,ntmps180;go_wp2_with fail;refine wp_loop_rounds 1 ?_;rw[rounds_succ];go_wp2_with fail;refine (hnm.out _).mono ?_;rintro e W ⟨rfl,rfl⟩;go_wp2_with fail;generalize hW1:lB w (lD _ 154)=W1;have hb1:Below w.heap.size w W1:=by rw[<-hW1];go_grown
 have hB1:Blk W1 w.heap.size 154 (Z5 a (.slice OA t.length c)):=by rw[<-hW1];exact Blk.new_at (cs:=Z5 a (.slice OA t.length c)) rfl
 clear hW1;replace hb1:=iD hb1;replace hB1:=iD hB1;go_loopw [52] (fun i wr=>∃ m:Nat,m<=t.length/\i=.int .i64 m/\Below W1.heap.size W1 wr) (fun i _=>t.length - (intOf i).toNat)
 case atStart=>exact⟨0,Nat.zero_le _,rfl,lG _ _⟩
 case round =>
  obtain⟨m,hm,rfl,hbr⟩:=hrel;by_cases hlt2:m<t.length
  ·have hBr:=hB1.out.below hbr hB1.out.lt;have d3:wr.cell? ⟨w.heap.size,3,none⟩=some (.slice OA t.length c):=hBr.cell 3;have hOr:=(hO.out.stayB hb1.out).stayB (hbr.mono (lE _));have hri:=iD (Z7l t _ ok m wr hOr ht hlt2);have i1:(0:Int)<=(m:Int):=by omega
   have i2:(m:Int)<(t.length:Int):=by omega
   replace hbr:=iD hbr;clear hBr hOr;go_wp2_with fail;refine hri.out.mono ?_;rintro e w3 ⟨rfl,hb3⟩;have hb4:=iD (hbr.out.trans (hb3.mono hbr.out.size));go_wp2_with fail;refine⟨⟨m+1,by omega,?_,hb4.out⟩,?_⟩
   ·go_num
   ·simp[intOf];omega
  ·have hmt:m=t.length:=by omega
   subst hmt;go_wp2_with fail;go_returns;exact⟨rfl,hb1.out.trans (hbr.mono hb1.out.size)⟩
end
section
set_option maxRecDepth 100000
set_option maxHeartbeats 4000000
open Go.Lib renaming hid → iD
open Go.Proofs.Tryz
open Go.RowKit
theorem Ky(a:Str)(o:Value):(lC.info? 154).map (·.size)=some (Z5 a o).length:=by
 have e:(lC.info? 154).map (·.size)=some 4:=by kernel_rfl
 rw[e];rfl
theorem Zfw(a t:Str)(ha:Z6 a=true)(ht:t.length<=1000)(h0:t ≠ [])(w:World) :
  Calls lC 93 #[Z0,Z0,Z1 a,.string ⟨#[]⟩,Z1 t] w fun e w'=>∃ o,e=.returned (.tuple #[.agg (Z5 a o).toArray,.int .i64 0])/\w'.ownsRow w.heap.size 278 37 o t.length (Yg (chain t))/\Below w.heap.size w w':=by
 have hal:=nmOk_len' ha;have hnm:=fun W=>Vr a W (by omega);unfold Z1 at hnm ⊢;simp only[ha] at hnm;replace hnm:=iD hnm;go_enter func93,ntmps93;go_wp2_with fail;generalize hW1:lB w (lD _ 154)=w1;have hb1:Below w.heap.size w w1:=by rw[<-hW1];exact bL
 have hC:Blk w1 w.heap.size 154 [Z0,.string ⟨#[]⟩,.string ⟨#[]⟩,Z0]:=by rw[<-hW1];exact Blk.new_at (cs:=[_,_,_,_]) rfl
 clear hW1;refine (Zfv _).mono ?_;rintro e w2 ⟨rfl,hb2⟩;have hb2':=iD (hb1.trans (hb2.mono hb1.size));have hC2:=iD (hC.below hb2 hC.lt);clear hb1 hb2 hC;go_wp2_with fail;refine (hnm.out _).mono ?_;rintro e w3 ⟨rfl,rfl⟩;go_wp2_with fail;refine (Zfr _).mono ?_;rintro e w3 ⟨tb,nb,mb,ab,rfl,hT,_,_,_,_,hb3⟩;have hb3':=iD (hb2'.out.trans (hb3.mono hb2'.out.size));have hC3:=iD (hC2.out.below hb3 hC2.out.lt);clear hb3 hC2 hb2';replace hT:=iD hT;go_wp2_with fail;have hops:=Zfn t ht h0 tb nb mb ab w3 hT.out;unfold Z1 at hops;refine hops.mono ?_;rintro e w4 ⟨V,rfl,hO,hb4⟩;have hb4':=iD (hb3'.out.trans (hb4.mono hb3'.out.size));have hC4:=hC3.out.below hb4 hC3.out.lt;obtain⟨OA,oc,rfl,_,_⟩:=Za hO;replace hO:=iD hO;have hs3:=hb3'.out.size;have k0:w4.cell? ⟨w.heap.size,0,none⟩=some Z0:=hC4.cell 0;have k1:w4.cell? ⟨w.heap.size,1,none⟩=some (.string ⟨#[]⟩):=hC4.cell 1;have k2:w4.cell? ⟨w.heap.size,2,none⟩=some (.string ⟨#[]⟩):=hC4.cell 2;have k3:w4.cell? ⟨w.heap.size,3,none⟩=some Z0:=hC4.cell 3;clear hb4 hC3 hops;replace hC4:=iD hC4;go_wp2_with (first | (refine Zd rfl 154 (.tmp 10) (.tmp 61) rfl w.heap.size (Z5 a (.slice OA t.length oc)) rfl rfl 154 [Z0,.string ⟨#[]⟩,.string ⟨#[]⟩,Z0] hC4.out rfl (Ky _ _) (by simp[Z5,lH]) ?_) | fail);exact Kd rfl w.heap.size 154 (Z5 a (.slice OA t.length oc)) _ (.int .i64 0) rfl rfl (hC4.out.setRow_same _) underlying154 rfl (Ky _ _) rfl ⟨_,rfl,J1 hs3 (Zj hO.out (Touch.setRow (L:=[w.heap.size]) (by simp) _) (fun b hb hm=>by
  obtain rfl:b=w.heap.size:=by simpa using hm
  exact Ys hO.out hC4.out (by decide) hb.symm)),below_setRow hb4'.out (lE _) _⟩
end
section
set_option maxRecDepth 100000
set_option maxHeartbeats 4000000
open Go.Lib renaming hid → iD
open Go.Proofs.Tryz
open Go.RowKit
structure EnSt (w W:World) (a:Str) (o V:Value) (xs:Str):Prop where
 row:W.ownsRow w.heap.size 5 1 V xs.length (xs.map B)
 below:Below w.heap.size w W
 box:Blk W w.heap.size 154 (Z5 a o)
theorem EnSt.size{w W:World}{a:Str}{o V:Value}{xs:Str}(h:EnSt w W a o V xs):w.heap.size<=W.heap.size:=h.below.size
theorem EnSt.next{w W W':World}{a:Str}{o V V':Value}{xs ys:Str}(h:EnSt w W a o V xs)(hr:W'.ownsRow w.heap.size 5 1 V' ys.length (ys.map B))(hb:Below w.heap.size W W')(hk:Xl W W'):EnSt w W' a o V' ys :=
 ⟨hr,h.below.trans hb,hk _ _ _ h.box (by decide)⟩
theorem EnSt.calm{w W W':World}{a:Str}{o V:Value}{xs:Str}(h:EnSt w W a o V xs)(hb:Below W.heap.size W W'):EnSt w W' a o V xs :=
 h.next (Zj h.row (Touch.ofBelow (L:=[]) hb) (fun _ _ hm=>by cases hm)) (hb.mono h.below.size) (Xl.below hb)
theorem Z4c{t:Str}{m:Nat}(h:m<t.length):(chain (t.take (m+1))).flatMap opS=(chain (t.take m)).flatMap opS++opS (Zb m t[m]):=by
 rw[Z1u h];unfold chain;rw[Z47,List.flatMap_append,List.length_take_of_le (by omega),lJ];simp
theorem Zfx(k:Nat)(c:UInt8)(h:k<=2000):(opS (Zb k c)).length<=30:=by
 have h1:=Kf 9 k (by omega);have h2:=Kf 0 0 (by omega);have h3:=Kf 1 4 (by omega);rw[Z48];by_cases hk:k=0
 ·simp only[hk,if_true,lA,lF,lK];omega
 ·simp only[hk,if_false,lA,lF,lK];omega
theorem Z26:∀ (t:Str) (k:Nat),k+t.length<=2000->((Jd k t).flatMap opS).length<=30*t.length
 | [],_,_=>by simp[Jd]
 | c :: t,k,h=>by
  simp only[lF] at h;have h1:=Z26 t (k+1) (by omega);have h2:=Zfx k c (by omega);simp only[Jd,List.flatMap_cons,lA,lF];omega
theorem G7{s:Str}(h:s.length<=2000):(Zr s).length<=s.length+10:=by
 have h1:=Kf 9 s.length (by omega);simp[Zr];omega
def G8(a t:Str):Str:=Z3 0++Zr a++Zr []++Z3 t.length
theorem Z27(a t:Str):Yk (Ym a t)=G8 a t++(chain t).flatMap opS:=by
 have h:(chain t).length=t.length:=Jq t 0;simp[Yk,Ym,G8,h]
theorem Z4d(a t:Str)(o:Value)(ok:Nat->Prop)(w:World)(h:Zl w ok o (chain t))(ha:Z6 a=true)(ht:t.length<=1000) :
    Calls lC 105 #[.agg (Z5 a o).toArray] w fun e w'=>∃ V,e=.returned (.tuple #[V,.int .i64 0])/\w'.ownsRow w.heap.size 5 1 V (Yk (Ym a t)).length ((Yk (Ym a t)).map B)/\Below w.heap.size w w':=by
  have hal:=nmOk_len' ha;rw[Z27];have hcl:(chain t).length=t.length:=Jq t 0;obtain⟨OA,oc,rfl,hoc,hor⟩:=h;have hO:Hid (Zl w ok (.slice OA (chain t).length oc) (chain t)):=iD ⟨OA,oc,rfl,hoc,hor⟩;rw[hcl] at hO ⊢;clear hor hoc;have hmay:=iD (fun W hb=>Z8h a t (.slice OA t.length oc) ok W (hO.out.stayB hb) ha (by omega));unfold Z5 at hmay ⊢;go_enter func105,ntmps105;go_wp2_with fail;generalize hW1:lB w (lD _ 154)=w1;have hS1:EnSt w w1 a (.slice OA t.length oc) Z0 []:=⟨⟨rfl,.inl ⟨rfl,rfl⟩⟩,by rw[<-hW1];exact bL,by rw[<-hW1];exact Blk.new_at (cs:=Z5 a (.slice OA t.length oc)) rfl⟩;clear hW1;refine (hmay.out _ hS1.below).mono ?_;rintro e w2 ⟨rfl,hb2⟩;have hS2:=hS1.calm hb2;have k0:w2.cell? ⟨w.heap.size,0,none⟩=some Z0:=hS2.box.cell 0;have hs2:=hS2.size;have hnum:=iD (Z07 0 Z0 [] w.heap.size w2 (by omega) hS2.row hs2 (by simp));replace hS2:=iD hS2;clear hS1 hb2;go_wp2_with fail;refine hnum.out.mono ?_;rintro e w3 ⟨V,rfl,hr3,hb3,hk3⟩;have hS3:=hS2.out.next hr3 hb3 hk3;have k0':w3.cell? ⟨w.heap.size,0,none⟩=some Z0:=hS3.box.cell 0;obtain⟨GA,gc,rfl,_,_⟩:=Za hr3;clear hr3 hb3 hk3 hnum k0;rw[List.nil_append] at *;replace hS3:=iD hS3;go_wp2_with fail;refine wp_loop_rounds 1 ?_;rw[rounds_succ];go_wp2_with fail;have hta:=G7 (s:=a) (by omega);have ht0:(Zr []).length<=10:=G7 (s:=[]) (by simp);have hp0:(Z3 0).length<=1:=Kf 0 0 (by omega);obtain⟨PS,hPS⟩:∃ PS:World->Prop,∀ x,PS x ↔ Blk x w.heap.size 154 (Z5 a (.slice OA t.length oc)):=⟨_,fun _=>Iff.rfl⟩;have s1:∀ s:Cls PS,s.1.cell? ⟨w.heap.size,1,none⟩=some (.string ⟨a.toArray⟩):=fun s=>((hPS _).1 s.2).cell 1;have s2:∀ s:Cls PS,s.1.cell? ⟨w.heap.size,2,none⟩=some (.string ⟨#[]⟩):=fun s=>((hPS _).1 s.2).cell 2;have s4:PS w3.drew:=(hPS _).2 hS3.out.box.drew;haveI : Nonempty (Cls PS):=⟨⟨_,s4⟩⟩;replace hPS:=iD hPS;refine Yh (fun w'=>∃ s:Cls PS,w'=s.1) [([0,1,2,5,6],3),([],4)] [] 7 [8,9] (by kernel_rfl) (by kernel_rfl) (fun _ d _ _ _ h=>by cases d <;> exact h) ⟨⟨_,s4⟩,rfl⟩ ?_;simp only[Y4,Z7,List.map_cons,List.map_nil,Zo,Zn];repeat (first | go_big_quiet_step (fail))
  refine lI ?_;intro K hK;go_simp;have htx:=Z1t a w3.drew (by omega);unfold Z1 at htx;refine htx.mono ?_;rintro e w4 ⟨V4,rfl,hr4,hb4⟩;have hS4:=hS3.out.calm ((lG _ _).drew.trans hb4);obtain⟨TA,tc,rfl,_,_⟩:=Za hr4;refine hK _ _ ⟨⟨_,(hPS.out _).2 hS4.box⟩,rfl⟩ ?_;clear hK;refine lI ?_;intro K hK;refine Vs _ rfl (.tmp 30) (.tmp 33) 57 rfl w.heap.size 5 (B 0) 1 1 underlying57 Kh (.slice GA (Z3 0).length gc) (Z3 0).length ((Z3 0).map B) rfl hS4.row _ TA (Zr a).length tc ((Zr a).map B) rfl (by simp) (K1 hr4) (by simp[lH]) (by unfold maxLen;omega) (by omega) hS4.size ?_;intro v5 w5 hrow5 hg5 hv5;obtain⟨y5,hy5⟩:∃ y5,y5=Z3 0++Zr a:=⟨_,rfl⟩;have hl5:y5.length<=100:=by rw[hy5];simp only[lA];omega
  have hS5:=hS4.next (ys:=y5) (by rw[hy5];simpa using hrow5) (Yo hS4.row hg5 hS4.size) (Xl.grown hS4.row hg5);obtain⟨UA,uc,rfl,_,_⟩:=Za hS5.row;replace hy5:=iD hy5;refine hK _ _ ⟨⟨_,(hPS.out _).2 hS5.box⟩,rfl⟩ ?_;clear hK hrow5 hg5 hv5 hr4 hb4 htx;replace hS5:=iD hS5;refine lI ?_;go_wp2_with fail;have hs5:=hS5.out.size;have htx0:=Z1t [] w5 (by simp);unfold Z1 at htx0;refine htx0.mono ?_;rintro e w6 ⟨V6,rfl,hr6,hb6⟩;have hS6:=iD (hS5.out.calm hb6);obtain⟨TB,tb,rfl,_,_⟩:=Za hr6;have hR6:=iD (K1 hr6);clear hr6 hb6 htx0;have hs6:=hS6.out.size;go_wp2_with (at_builtin;refine Yt _ rfl (.tmp 34) (.tmp 37) 57 rfl w.heap.size 5 (B 0) 1 1 underlying57 Kh (.slice UA y5.length uc) y5.length (y5.map B) rfl hS6.out.row _ TB (Zr []).length tb ((Zr []).map B) rfl (by simp) hR6.out (by simp[lH]) (by unfold maxLen;omega) (by omega) hs6 ?_;intro v7 w7 hrow7 hg7 hv7;obtain⟨y7,hy7⟩:∃ y7,y7=y5++Zr []:=⟨_,rfl⟩;have hl7:y7.length<=120:=(by rw[hy7];simp only[lA];omega);have hS7:=hS6.out.next (ys:=y7) (by rw[hy7];simpa using hrow7) (Yo hS6.out.row hg7 hs6) (Xl.grown hS6.out.row hg7);obtain⟨UB,ub,rfl,_,_⟩:=Za hS7.row;have k3:w7.cell? ⟨w.heap.size,3,none⟩=some (.slice OA t.length oc):=hS7.box.cell 3;replace hS7:=iD hS7;replace hy7:=iD hy7;clear hrow7 hg7 hv7;go_frame);have hs7:=hS7.out.size;refine (Z07 t.length _ y7 w.heap.size _ (by omega) hS7.out.row hs7 (by omega)).mono ?_;rintro e w8 ⟨V,rfl,hr8,hb8,hk8⟩;obtain⟨y8,hy8⟩:∃ y8,y8=y7++Z3 t.length:=⟨_,rfl⟩;have hpt:=Kf 9 t.length (by omega);have hl8:y8.length<=140:=by rw[hy8];simp only[lA];omega
  rw[<-hy8] at hr8;have hS8:=hS7.out.next hr8 hb8 hk8;obtain⟨UC,ub8,rfl,_,_⟩:=Za hS8.row;have k38:w8.cell? ⟨w.heap.size,3,none⟩=some (.slice OA t.length oc):=hS8.box.cell 3;replace hS8:=iD hS8;replace hy8:=iD hy8;clear hr8 hb8 hk8;go_wp2_with fail;go_loopw [5,47] (fun b i wr=>∃ m:Nat,m<=t.length/\i=.int .i64 m/\EnSt w wr a (.slice OA t.length oc) b (y8++(chain (t.take m)).flatMap opS)) (fun _ i _=>t.length - (intOf i).toNat)
  case atStart=>exact⟨0,Nat.zero_le _,rfl,by simpa[chain,Jd] using hS8.out⟩
  case round =>
    obtain⟨m,hm,rfl,hst⟩:=hrel;by_cases hlt:m<t.length
    · obtain⟨zs,hzs⟩:∃ zs,zs=y8++(chain (t.take m)).flatMap opS:=⟨_,rfl⟩
      have hzl:zs.length<=31000:=by
        have h1:=Z26 (t.take m) 0 (by simp;omega);have h2:(t.take m).length<=1000:=by simp;omega
        rw[hzs,lA];unfold chain;omega
      have hfl:=iD (Z4c hlt);rw[<-hzs] at hst;obtain⟨FA,fc,rfl,_,_⟩:=Za hst.row;have hOr:=hO.out.stayB hst.below;rw[<-hcl] at hOr;have hmc:m<(chain t).length:=by omega
      obtain⟨b,o,rfl,_,hbl,hcells⟩:=hOr.op (Z3w (by omega)).ok m hmc;have hat:(chain t)[m]=Zb m t[m]:=by
        have h1:=Z1x t 0 m hlt;rw[lJ] at h1;exact Option.some.inj ((List.getElem?_eq_getElem hmc).symm.trans h1)
      rw[hat] at hcells;obtain⟨c,hc⟩:∃ c,c=t[m]:=⟨_,rfl⟩;rw[<-hc] at hcells hfl;have hf:=Vq (k:=m) c (by omega);have i1:(0:Int)<=(m:Int):=by omega
      have i2:(m:Int)<(t.length:Int):=by omega
      replace hst:=iD hst;replace hzs:=iD hzs;replace hcells:=iD hcells;replace hc:=iD hc;clear hOr hat hO hmay;go_wp2_with (first
        | (refine wpList_load_mid rfl 278 (.tmp 49) rfl b (o+m*37) rfl (Z9 (Zb m c)) _ (fun j v hv=>hcells.out j v hv) underlying278 rfl (Kx hf) ?_)
        | (refine Zd rfl 278 (.tmp 9) (.tmp 50) rfl wr.heap.size (Z9 (Zb m c)) rfl rfl 278 Yn (Blk.new_at rfl) (by rw[Jo hf];rfl) (Kx hf) (Kw _) ?_
           generalize hw1:World.setRow _ wr.heap.size (Z9 (Zb m c)).toArray=w9;have hB9:Blk w9 wr.heap.size 278 (Z9 (Zb m c)):=by
             rw[<-hw1];exact (Blk.new_at (w:=wr) (t:=278) (cs:=Yn) rfl).setRow_same (Z9 (Zb m c))
           have hb9:Below wr.heap.size wr w9:=by
             rw[<-hw1];exact below_setRow ((lG wr.heap.size wr).alloc (lE _) (.cells Yn.toArray 278)) (lE _) (Z9 (Zb m c)).toArray
           clear hw1;replace hB9:=iD hB9;replace hb9:=iD hb9;go_frame)
        | (refine Zy rfl 278 (.tmp 9) rfl wr.heap.size rfl 278 (Z9 (Zb m c)) hB9.out _ underlying278 rfl (Kx hf) ?_)
        | fail)
      have hS9:=hst.out.calm hb9.out;refine (Zf5 m c (by omega) _ zs w.heap.size w9 hS9.row hS9.size (by omega)).mono ?_;rintro e w10 ⟨V,rfl,hr10,hb10,hk10⟩;have hS10:=iD (hS9.next hr10 hb10 hk10);clear hr10 hb10 hk10 hS9;go_wp2_with fail;refine⟨⟨m+1,by omega,by go_num,?_⟩,by simp[intOf];omega⟩;rw[hfl.out,<-List.append_assoc,<-hzs.out];exact hS10.out
    · have hmt:m=t.length:=by omega
      subst hmt;go_wp2_with fail;have e8:G8 a t=y8:=by rw[hy8.out,hy7.out,hy5.out];rfl
      rw[List.take_length] at hst;rw[e8];obtain⟨FA,fc,rfl,_,_⟩:=Za hst.row;go_returns;exact⟨_,rfl,hst.row,hst.below⟩
end
section
set_option maxRecDepth 100000
set_option maxHeartbeats 4000000
open Go.Lib renaming hid → iD
open Go.Proofs.Tryz
open Go.RowKit
theorem J2(m:Str):(Y6 m).length=32:=rfl
def idT(a t:Str):Str:=Y6 (Yk (Ym a t))
theorem Z4l(a t:Str)(o:Value)(ok:Nat->Prop)(w:World)(h:Zl w ok o (chain t))(ha:Z6 a=true)(ht:t.length<=1000)(hK:Zm w) :
  Calls lC 173 #[.agg (Z5 a o).toArray] w fun e w'=>e=.returned (.tuple #[.agg ((idT a t).map B).toArray,.int .i64 0])/\Below w.heap.size w w':=by
 have hen:=Z4d a t o ok;have hal:=nmOk_len' ha;have hel:(Yk (Ym a t)).length<=100000:=by
  rw[Z27];have h1:=G7 (s:=a) (by omega);have h2:(Zr []).length<=10:=G7 (s:=[]) (by simp);have h3:=Kf 0 0 (by omega);have h4:=Kf 9 t.length (by omega);have h5:=Z26 t 0 (by omega);unfold G8 chain;simp only[lA];omega
 replace hen:=iD (fun W hb=>hen W (h.stayB hb) ha ht);unfold idT;obtain⟨xs,hxs⟩:∃ xs,xs=Yk (Ym a t):=⟨_,rfl⟩;rw[<-hxs] at hen hel ⊢;replace hxs:=iD hxs;have hKb:=iD (fun W (hb:Below w.heap.size w W)=>keys_below hK hb);clear h hK;have hdl:=J2 xs;obtain⟨ds,hds⟩:∃ ds,ds=Y6 xs:=⟨_,rfl⟩;rw[<-hds];have hdl':ds.length=32:=by rw[hds];rfl
 replace hds:=iD hds;unfold Z5 at hen ⊢;go_enter func173,ntmps173;go_wp2_with fail;generalize hW1:lB (lB w _) (lD _ 59)=w1;have hb1:Below w.heap.size w w1:=by rw[<-hW1];exact bL.alloc (by simp) _
 have hR1:Blk w1 (w.heap.size+1) 59 Z2:=by rw[<-hW1];exact Blk.new_at (cs:=Z2) (by simp)
 have hs1:w.heap.size+1<=w1.heap.size:=by rw[<-hW1];simp
 clear hW1;refine (hen.out _ hb1).mono ?_;rintro e w2 ⟨V,rfl,hr2,hb2⟩;obtain⟨GA,gc,rfl,hgc,_⟩:=Za hr2;have hR2:=hR1.below hb2 hR1.lt;have hb2':=hb1.trans (hb2.mono hb1.size);have hs2:=hb2.size;have hrd:Rd w2 (· < w2.heap.size) GA (xs.map B):=(K1 hr2).weak (fun b hb _=>hb);have hsum:=Ql xs GA gc w2 hrd hgc (by omega) (hKb.out _ hb2');clear hr2 hb2 hR1 hb1;replace hb2':=iD hb2';replace hR2:=iD hR2;rw[<-hds.out] at hsum;replace hsum:=iD hsum;go_wp2_with fail;refine hsum.out.mono ?_;rintro e w3 ⟨rfl,hb3⟩;have hR3:=iD (hR2.out.below hb3 hR2.out.lt);have hb3':=iD (hb2'.out.trans (hb3.mono hb2'.out.size));clear hb3;go_wp2_with (first | (refine Zd rfl 59 (.tmp 2) (.tmp 16) rfl (w.heap.size+1) (ds.map B) rfl rfl 59 Z2 hR3.out (by simp[hdl',Z2]) (Zg hdl') (Y5 _) ?_) | fail);exact Kd rfl (w.heap.size+1) 59 (ds.map B) _ (.int .i64 0) rfl rfl (hR3.out.setRow_same _) underlying59 rfl (Zg hdl') rfl ⟨rfl,below_setRow hb3'.out (by omega) _⟩
end
end Go.Proofs.YtefjlobdifjogaaGreatDoor
