import Derived.Test.YtfdimggmljkkbaaGreatDoorP11
open Go renaming wpQuiet_nil → lD
open Go.Builtin renaming zeroCells → lQ, append_ → l7, firstCells → l8
open Go.Extern.SlicesOverlaps renaming overlaps → lX
open Go.Op renaming slice → lO
open Go.Proofs.Tryz renaming prog → lA
open Go.Result renaming andThen → lH
open Go.RowKit.Below renaming refl → lL
open Go.Value renaming pointer → lG
open Go.World renaming shape? → lY
open Iff renaming rfl → lI
open List renaming length_append → lB, length_take → lC, length_drop → lE, map_cons → lJ, map_nil → lK, append_assoc → lN, take_take → lR, getElem?_eq_some_iff → lS, getElem?_take_of_lt → lT, length_cons → lU, length_nil → lV, getElem?_append_left → lW, getElem?_drop → lZ, take_left' → l0, mem_of_mem_drop → l1, take_succ_cons → l2, take_zero → l3, drop_succ_cons → l4, drop_zero → l5
open Nat renaming le_refl → lF, mul_one → lM, min → lP, min_eq_left → l6
namespace Go.Proofs.YtfdimggmljkkbaaGreatDoor
section
set_option maxRecDepth 100000
set_option maxHeartbeats 4000000
open Go.Lib renaming hid → iD
open Go.Proofs.Tryz
open Go.RowKit
theorem Z0j(r:PRef)(b:UInt8)(g:Bool)(l rt:Value):(Zf r b g l rt).drop 1=r.com.map B++[.int .i64 r.n,B b,.bool g,l,rt]:=by simp[Zf,Z1]
theorem Zbg{r:PRef}(hr:r.com.length=32)(b:UInt8)(g:Bool)(l rt:Value):(Zf r b g l rt)[33]?=some (.int .i64 r.n):=by
 simp[Zf,Z1,hr]
theorem Zbh(x y:Nat)(ra rb:PRef)(ha:ra.com.length=32)(hb:rb.com.length=32)(hna:0<=ra.n/\ra.n<=1000000)(hnb:0<=rb.n/\rb.n<=1000000)(ba bb:UInt8)(ga gb:Bool)(la ta lb tb:Value)(w:World)
  (hX:Blk w x 235 (Zf ra ba ga la ta)) (hY:Blk w y 235 (Zf rb bb gb lb tb)) :
  Calls lA 159 #[.pointer (some ⟨x,0,none⟩),.pointer (some ⟨y,0,none⟩)] w fun e w'=>e=.returned (.int .i64 (U7 ra rb))/\Below w.heap.size w w':=by
 have xa:w.cell? ⟨x,33,none⟩=some (.int .i64 ra.n):=(hX.cell 33).trans (Zbg ha _ _ _ _);have ya:w.cell? ⟨y,33,none⟩=some (.int .i64 rb.n):=(hY.cell 33).trans (Zbg hb _ _ _ _);have hXD:Hid (∀ w',(∃ n,w'=w.drewN n)->Blk w' x 235 (Zf ra ba ga la ta)):=iD (by rintro _ ⟨n,rfl⟩;exact hX.drewN n);have hYD:Hid (∀ w',(∃ n,w'=w.drewN n)->Blk w' y 235 (Zf rb bb gb lb tb)):=iD (by rintro _ ⟨n,rfl⟩;exact hY.drewN n);replace hX:=iD hX;replace hY:=iD hY;go_enter func159,ntmps159;go_upto_region 1 with fail;by_cases hc:ra.com=rb.com
 ·have hc':(ra.com == rb.com)=true:=by simpa using hc
  have hno:U7 ra rb=ra.n - rb.n:=by unfold U7;rw[if_pos hc]
  obtain⟨PS,hPS⟩:∃ PS:World->Prop,∀ z,PS z ↔ z=w.drew:=⟨_,fun _=>lI⟩;have s4:PS w.drew:=(hPS _).2 rfl;have s5:∀ z:Cls PS,z.1.cell? ⟨x,33,none⟩=some (.int .i64 ra.n):=fun z=>by rw[(hPS _).1 z.2];exact xa
  have s6:∀ z:Cls PS,z.1.cell? ⟨y,33,none⟩=some (.int .i64 rb.n):=fun z=>by rw[(hPS _).1 z.2];exact ya
  haveI : Nonempty (Cls PS):=⟨⟨_,s4⟩⟩;replace hPS:=iD hPS;refine Kk (fun w'=>∃ z:Cls PS,w'=z.1) [] [0,1,2,3,4,5,6,7,8,9] 10 [11] (by kernel_rfl) (by kernel_rfl) (fun _ d _ _ _ h=>by cases d <;> exact h) ⟨⟨_,s4⟩,rfl⟩ ?_;simp only[Jr,Zj,lJ,lK,Yw,Ys];repeat (first | (refine Yf 47 (.tmp 9) rfl rfl x 1 rfl 235 (Zf ra ba ga la ta) (ra.com.map B) _ (by rintro _ ⟨z,rfl⟩;rw[(hPS.out _).1 z.2];exact hX.out.drew) (Z0j _ _ _ _ _) _ underlying47 rfl (Za ha) ?_;go_frame) | (refine Yf 47 (.tmp 14) rfl rfl y 1 rfl 235 (Zf rb bb gb lb tb) (rb.com.map B) _ (by rintro _ ⟨z,rfl⟩;rw[(hPS.out _).1 z.2];exact hY.out.drew) (Z0j _ _ _ _ _) _ underlying47 rfl (Za hb) ?_;go_frame) | go_big_quiet_step (fail))
  refine lD ?_;clear s4 s5 s6 hPS;refine O4 rfl (.tmp 10) (.tmp 15) _ rfl ra.com rb.com rfl rfl ha hb ?_;go_frame;rw[hc'];replace hno:=iD hno;replace hc:=iD hc;go_upto_region 2 with fail
  change Code.wp _ _ _ _ w.drew
  obtain⟨PS,hPS⟩:∃ PS:World->Prop,∀ z,PS z ↔ z=w.drew.drew:=⟨_,fun _=>lI⟩;have s4:PS w.drew.drew:=(hPS _).2 rfl;have s5:∀ z:Cls PS,z.1.cell? ⟨x,33,none⟩=some (.int .i64 ra.n):=fun z=>by rw[(hPS _).1 z.2];exact xa
  have s6:∀ z:Cls PS,z.1.cell? ⟨y,33,none⟩=some (.int .i64 rb.n):=fun z=>by rw[(hPS _).1 z.2];exact ya
  haveI : Nonempty (Cls PS):=⟨⟨_,s4⟩⟩;replace hPS:=iD hPS;refine Kk (fun w'=>∃ z:Cls PS,w'=z.1) [] [0,1,2,3,4,5,6,7,8,9] 10 [11] (by kernel_rfl) (by kernel_rfl) (fun _ d _ _ _ h=>by cases d <;> exact h) ⟨⟨_,s4⟩,rfl⟩ ?_;simp only[Jr,Zj,lJ,lK,Yw,Ys];repeat (first | go_big_quiet_step (fail))
  refine lD ?_;clear s4 s5 s6 hPS;go_wp2_with fail;go_returns;exact⟨by rw[hno.out];rfl,by go_grown⟩
 ·have hc':(ra.com == rb.com)=false:=by simpa using hc
  have hno:U7 ra rb=if Ze ra.com rb.com then -1 else 1:=by unfold U7;rw[if_neg hc]
  have hls:=iD (fun W=>Z2j ra.com rb.com ha hb W);obtain⟨PS,hPS⟩:∃ PS:World->Prop,∀ z,PS z ↔ z=w.drew:=⟨_,fun _=>lI⟩;have s4:PS w.drew:=(hPS _).2 rfl;have s5:∀ z:Cls PS,z.1.cell? ⟨x,33,none⟩=some (.int .i64 ra.n):=fun z=>by rw[(hPS _).1 z.2];exact xa
  have s6:∀ z:Cls PS,z.1.cell? ⟨y,33,none⟩=some (.int .i64 rb.n):=fun z=>by rw[(hPS _).1 z.2];exact ya
  haveI : Nonempty (Cls PS):=⟨⟨_,s4⟩⟩;replace hPS:=iD hPS;refine Kk (fun w'=>∃ z:Cls PS,w'=z.1) [] [0,1,2,3,4,5,6,7,8,9] 10 [11] (by kernel_rfl) (by kernel_rfl) (fun _ d _ _ _ h=>by cases d <;> exact h) ⟨⟨_,s4⟩,rfl⟩ ?_;simp only[Jr,Zj,lJ,lK,Yw,Ys];repeat (first | (refine Yf 47 (.tmp 9) rfl rfl x 1 rfl 235 (Zf ra ba ga la ta) (ra.com.map B) _ (by rintro _ ⟨z,rfl⟩;rw[(hPS.out _).1 z.2];exact hX.out.drew) (Z0j _ _ _ _ _) _ underlying47 rfl (Za ha) ?_;go_frame) | (refine Yf 47 (.tmp 14) rfl rfl y 1 rfl 235 (Zf rb bb gb lb tb) (rb.com.map B) _ (by rintro _ ⟨z,rfl⟩;rw[(hPS.out _).1 z.2];exact hY.out.drew) (Z0j _ _ _ _ _) _ underlying47 rfl (Za hb) ?_;go_frame) | go_big_quiet_step (fail))
  refine lD ?_;clear s4 s5 s6 hPS;refine O4 rfl (.tmp 10) (.tmp 15) _ rfl ra.com rb.com rfl rfl ha hb ?_;go_frame;rw[hc'];replace hc:=iD hc;go_upto_region 3 with fail
  change Code.wp _ _ _ _ w.drew
  obtain⟨PS,hPS⟩:∃ PS:World->Prop,∀ z,PS z ↔ z=w.drew.drew:=⟨_,fun _=>lI⟩;have s4:PS w.drew.drew:=(hPS _).2 rfl;have s5:∀ z:Cls PS,z.1.cell? ⟨x,33,none⟩=some (.int .i64 ra.n):=fun z=>by rw[(hPS _).1 z.2];exact xa
  have s6:∀ z:Cls PS,z.1.cell? ⟨y,33,none⟩=some (.int .i64 rb.n):=fun z=>by rw[(hPS _).1 z.2];exact ya
  haveI : Nonempty (Cls PS):=⟨⟨_,s4⟩⟩;replace hPS:=iD hPS;refine Kk (fun w'=>∃ z:Cls PS,w'=z.1) [] [0,1,2,3,4,5,6,7,8,9] 10 [11] (by kernel_rfl) (by kernel_rfl) (fun _ d _ _ _ h=>by cases d <;> exact h) ⟨⟨_,s4⟩,rfl⟩ ?_;simp only[Jr,Zj,lJ,lK,Yw,Ys];repeat (first | (refine Yf 47 (.tmp 32) rfl rfl x 1 rfl 235 (Zf ra ba ga la ta) (ra.com.map B) _ (by rintro _ ⟨z,rfl⟩;rw[(hPS.out _).1 z.2];exact hX.out.drew.drew) (Z0j _ _ _ _ _) _ underlying47 rfl (Za ha) ?_;go_frame) | (refine Yf 47 (.tmp 37) rfl rfl y 1 rfl 235 (Zf rb bb gb lb tb) (rb.com.map B) _ (by rintro _ ⟨z,rfl⟩;rw[(hPS.out _).1 z.2];exact hY.out.drew.drew) (Z0j _ _ _ _ _) _ underlying47 rfl (Za hb) ?_;go_frame) | go_big_quiet_step (fail))
  refine lD ?_;clear s4 s5 s6 hPS;go_wp2_with fail;refine (hls.out _).mono ?_;rintro e w2 ⟨rfl,hb2⟩;replace hb2:=iD hb2;cases hl:Ze ra.com rb.com
  ·rw[hl] at hno;go_wp2_with fail;go_returns;exact⟨by rw[hno];rfl,((lL _ _).drew.drew).trans (hb2.out.mono (lF _))⟩
  ·rw[hl] at hno;go_wp2_with fail;go_returns;exact⟨by rw[hno];rfl,((lL _ _).drew.drew).trans (hb2.out.mono (lF _))⟩
end
section
set_option maxRecDepth 100000
set_option maxHeartbeats 4000000
open Go.Lib renaming hid → iD
open Go.Proofs.Tryz
open Go.RowKit
theorem Zle(tb nb mb ab:Nat)(seen:Int)(es:List (Value × Value))(id:Str)(p:Nat)(r:PRef)(hrc:r.com.length=32)(ho:r.own=false)(hn:1<=r.n)(w:World)(hT:Blk w tb 245 (Jl nb mb ab seen))(hM:Zg w mb es)(hk:∀ q ∈ es,Uh q.1)
  (hm:(Zl r,lG (some ⟨p,0,none⟩)) ∈ es) (hu:∀ q ∈ es,q.1=Zl r->q.2=.pointer (some ⟨p,0,none⟩)) :
  Calls lA 157 #[.pointer (some ⟨tb,0,none⟩),.agg (id.map B).toArray,Zl r] w fun e w'=>e=.returned (.pointer (some ⟨p,0,none⟩))/\Below w.heap.size w w':=by
 unfold Zl at hm hu ⊢;generalize hW1:((w.alloc (.cells (id.map B).toArray 47)).alloc (.cells (Z1 r).toArray 158))=w1;have hb1:Below w.heap.size w w1:=by rw[<-hW1];exact bL.alloc (by simp) _
 have hR:Blk w1 (w.heap.size+1) 158 (Z1 r):=by rw[<-hW1];exact Blk.new_at (cs:=Z1 r) (by simp)
 have hT1:=hT.below hb1 hT.lt;have hM1:=hM.below hb1 hM.lt;have r0:w1.cell? ⟨w.heap.size+1,0,none⟩=some (.bool false):=(hR.cell 0).trans (by simp[Z1,ho]);have hbr:(r.own == Z8.own && (r.com == Z8.com && r.n == Z8.n))=false:=by
  have : (r.n == Z8.n)=false:=by rw[beq_eq_false_iff_ne];simp[Z8];omega
  rw[this];simp
 have hrun:∀ w',(∃ n,w'=w1.drewN n)->(Instr.lookup 243 (.map (some mb)) (Zl r) false).run lA w'=.ok (.pointer (some ⟨p,0,none⟩)) w':=by
  rintro _ ⟨n,rfl⟩;have hM2:Zg (w1.drewN n) mb es:=hM1.block rfl;exact hM2.look_some Z04 underlying243 hk ⟨r,hrc,rfl⟩ hm hu false
 have c1:w1.cell? ⟨tb,1,none⟩=some (.map (some mb)):=hT1.cell 1;have hR3:Hid (∀ w',(∃ n,w'=w1.drewN n)->Blk w' (w.heap.size+1) 158 (Z1 r)):=iD (by rintro _ ⟨n,rfl⟩;exact hR.drewN n);replace hR:=iD hR;replace hrun:=iD hrun;replace hb1:=iD hb1;replace ho:=iD ho;clear hT hT1 hM hM1 hm hu hk;go_enter func157,ntmps157;go_wp2_with (first
  | (refine Y0 rfl 158 (.tmp 5) rfl (w.heap.size+1) rfl 158 (Z1 r) hR.out _ underlying158 rfl (Xe hrc) ?_)
  | (refine Z2s rfl (.tmp 13) (.tmp 14) _ rfl r Z8 rfl rfl hrc rfl ?_;rw[hbr];go_frame)
  | fail)
 clear hW1 r0;refine wp_region_quiet_lit (by kernel_rfl) (by kernel_rfl) ?_;repeat (first
  | go_big_quiet_step (fail)
  | (refine Yf 158 (.tmp 5) rfl rfl (w.heap.size+1) 0 rfl 158 (Z1 r) (Z1 r) [] hR3.out (by simp) _ underlying158 rfl (Xe hrc) ?_;go_frame)
  | (refine Yp (.lookup 243 (.tmp 23) (.tmp 24) false) rfl rfl (.pointer (some ⟨p,0,none⟩)) (fun w' hw'=>Jk 243 (.tmp 23) (.tmp 24) false rfl _ _ _ rfl rfl (hrun.out w' hw')) ?_;go_frame))
 refine lD ?_;rintro _ ⟨nq,rfl⟩;go_wp2_with fail;go_ret;exact⟨rfl,hb1.out.trans ((Touch.drewN (L:=[]) nq).below hb1.out.size (fun _ hi=>by cases hi))⟩
end
section
set_option maxRecDepth 100000
set_option maxHeartbeats 4000000
open Go.Lib renaming hid → iD
open Go.Proofs.Tryz
open Go.RowKit
theorem Zbi(nms:List PRef)(nm:PRef)(f i j:Nat)(h:i<j):bsL nms nm (f+1) i j=if U7 (nms.getD ((i+j) / 2) Z8) nm<0 then bsL nms nm f ((i+j) / 2+1) j else bsL nms nm f i ((i+j) / 2):=by rw[bsL,if_pos h]
theorem Z6l(nms:List PRef)(nm:PRef)(f i j:Nat)(h:¬ i<j):bsL nms nm f i j=i:=by cases f <;> simp[bsL,h]
theorem Zlf(rb n cap:Nat)(ns:List Nat)(rest:List Value)(nms:List PRef)(x:Nat)(nm:PRef)(hn:ns.length=n)(hl:nms.length=n)(hnl:n<=1000000)(w:World)
  (hB:Blk w rb 233 (Y5 ns++rest)) (hord:∀ i (h1:i<ns.length) (h2:i<nms.length) W,Below w.heap.size w W->Calls lA 159 #[.pointer (some ⟨ns[i],0,none⟩),.pointer (some ⟨x,0,none⟩)] W fun e w'=>e=.returned (.int .i64 (U7 nms[i] nm))/\Below W.heap.size W w') :
  Calls lA 158 #[.slice (some ⟨rb,0,none⟩) n cap,.pointer (some ⟨x,0,none⟩),.func (.func 159) #[] #[]] w fun e w'=>∃ q:Bool,e=.returned (.tuple #[.int .i64 (bsL nms nm (n+1) 0 n:Nat),.bool q])/\Below w.heap.size w w':=by
 replace hord:=iD hord;replace hB:=iD hB;go_enter func158,ntmps158;go_upto_region 3 with fail;go_loopw [9,10] (fun a b wr=>∃ i j f:Nat,i<=j/\j<=n/\j - i<f/\a=.int .i64 i/\b=.int .i64 j/\bsL nms nm f i j=bsL nms nm (n+1) 0 n/\Below w.heap.size w wr) (fun a b _=>(intOf b).toNat - (intOf a).toNat)
 case atStart=>exact⟨0,n,n+1,by omega,by omega,by omega,rfl,rfl,rfl,lL _ _⟩
 case round =>
 obtain⟨i,j,f,hij,hjn,hf,rfl,rfl,hbs,hb⟩:=hrel;by_cases hlt:i<j
 ·have i0:(0:Int)<=(i:Int):=by omega
  have i1:(i:Int)<(j:Int):=by omega
  obtain⟨h,hh⟩:∃ h,h=(i+j) / 2:=⟨_,rfl⟩;have hz:((i:Int)+(j:Int)) / 2=(h:Int):=by omega
  have h1:h<ns.length:=by omega
  have h2:h<nms.length:=by omega
  have hih:i<=h:=by omega
  have hhj:h<j:=by omega
  obtain⟨f,rfl⟩:∃ g,f=g+1:=⟨f - 1,by omega⟩;rw[Zbi _ _ _ _ _ hlt,<-hh,show nms.getD h Z8=nms[h] by simp[List.getD,h2]] at hbs;have hc:=hord.out h h1 h2 wr hb;have hBr:=hB.out.below hb hB.out.lt;have ch:wr.cell? ⟨rb,h,none⟩=some (.pointer (some ⟨ns[h],0,none⟩)):=by
   rw[hBr.cell,lW (by simp[Y5];exact h1)];simp[Y5,h1]
  have k0:(0:Int)<=(h:Int):=by omega
  have k1:(h:Int)<(n:Int):=by omega
  obtain⟨o,ho⟩:∃ o,o=U7 nms[h] nm:=⟨_,rfl⟩;rw[<-ho] at hbs hc;replace hbs:=iD hbs;replace hh:=iD hh;replace ho:=iD ho;replace hc:=iD hc;clear hBr;go_wp2_with fail;refine hc.out.mono ?_;rintro e w2 ⟨rfl,hb2⟩;have hb02:=iD (hb.trans (hb2.mono hb.size));clear hb2 hc ch;by_cases hneg:o<0
  ·have d1:decide (o<0)=true:=decide_eq_true hneg;rw[if_pos hneg] at hbs;go_wp2_with fail;refine⟨⟨h+1,j,f,by omega,by omega,by omega,by go_num,rfl,hbs.out,hb02.out⟩,?_⟩;simp[intOf];omega
  ·have d1:decide (o<0)=false:=decide_eq_false hneg;rw[if_neg hneg] at hbs;go_wp2_with fail;refine⟨⟨i,h,f,by omega,by omega,by omega,rfl,rfl,hbs.out,hb02.out⟩,?_⟩;simp[intOf];omega
 ·rw[Z6l _ _ _ _ _ hlt] at hbs;have dlt:decide ((i:Int)<(j:Int))=false:=decide_eq_false (by omega);replace hbs:=iD hbs;by_cases hin:i<n
  ·have h1:i<ns.length:=by omega
   have h2:i<nms.length:=by omega
   have hc:=iD (hord.out i h1 h2 wr hb);have hBr:=hB.out.below hb hB.out.lt;have ch:wr.cell? ⟨rb,i,none⟩=some (.pointer (some ⟨ns[i],0,none⟩)):=by
    rw[hBr.cell,lW (by simp[Y5];exact h1)];simp[Y5,h1]
   have k0:(0:Int)<=(i:Int):=by omega
   have k1:(i:Int)<(n:Int):=by omega
   have dn:decide ((i:Int)<(n:Int))=true:=decide_eq_true k1;clear hBr;go_wp2_with fail;refine hc.out.mono ?_;rintro e w2 ⟨rfl,hb2⟩;have hb02:=iD (hb.trans (hb2.mono hb.size));clear hb2 hc ch;go_wp2_with fail;go_returns;exact⟨_,by rw[<-hbs.out];rfl,hb02.out⟩
  ·have dn:decide ((i:Int)<(n:Int))=false:=decide_eq_false (by omega);replace hb:=iD hb;go_wp2_with fail;go_returns;exact⟨_,by rw[<-hbs.out];rfl,hb.out⟩
end
section
set_option maxRecDepth 100000
set_option maxHeartbeats 4000000
open Go.Lib renaming hid → iD
open Go.Proofs.Tryz
open Go.RowKit
theorem Qb:(lA.info? 233).map (·.size)=some 1:=by kernel_rfl
theorem Z6m{w:World}{base:Nat}{v:Value}{n:Nat}{xs:List Value}(h:w.ownsRow base 233 1 v n xs)(hn:0<n) :
  ∃ g cap cur,v=.slice (some ⟨g,0,none⟩) n cap/\base<=g/\Blk w g 233 cur/\n<=cap/\cap<=maxLen/\cur.length=cap/\cur.take (n)=xs:=by
 rcases h.2 with ⟨_,h0⟩ | ⟨g,cap,cur,rfl,hb,hg,h1,h2,h3,h4⟩
 ·omega
 ·exact⟨g,cap,cur.toList,rfl,hb,by unfold Blk;simpa using hg,h1,h2,by simpa using h3,by simpa using h4⟩
theorem Zbj{w:World}{base g cap n:Nat}{cur xs:List Value}(hb:base<=g)(hg:Blk w g 233 cur)(h1:n<=cap)(h2:cap<=maxLen)(h3:cur.length=cap)(h4:cur.take (n)=xs) :
  w.ownsRow base 233 1 (.slice (some ⟨g,0,none⟩) n cap) n xs :=
 ⟨by rw[<-h4,lC,h3];omega,.inr ⟨g,cap,cur.toArray,rfl,hb,hg,h1,h2,by simpa using h3,by simpa using h4⟩⟩
def Z3p(w:World)(base:Nat)(v:Value)(n:Nat)(xs:List Value)(e:Ending)(w':World):Prop :=
 ∃ v',e=.returned v'/\w'.ownsRow base 233 1 v' n xs/\w.grownBy w' v.ownBlock/\(v'.ownBlock=v.ownBlock ∨ ∀ b,v'.ownBlock=some b->w.heap.size<=b)
section
variable {α:Type}
theorem Zlg(c S:List α)(a:α)(o:Nat)(h:o+1<=c.length):splice (splice c (o+1) S) o [a]=c.take o++([a]++(S++c.drop (o+1+S.length))):=by
 have h1:(c.take (o+1)).length=o+1:=by rw[lC];omega
 unfold splice;have e1:(c.take (o+1)++(S++c.drop (o+1+S.length))).take o=c.take o:=by
  rw[List.take_append_of_le_length (by omega),lR];congr 1;omega
 have e2:(c.take (o+1)++(S++c.drop (o+1+S.length))).drop (o+[a].length)=S++c.drop (o+1+S.length):=by
  have : o+[a].length=(c.take (o+1)).length:=by rw[h1];rfl
  rw[this,List.drop_left]
 rw[e1,e2]
end
theorem Zlh(base:Nat)(v:Value)(n:Nat)(xs:List Value)(gx:Nat)(a:Value)(w:World)(ho:w.ownsRow base 233 1 v n xs)(hn:n<=2199023255552)
  (hx:Blk w gx 233 [a]) (ha:a.oneCell'=true) (hbase:base<=w.heap.size) :
  Calls lA 160 #[v,.int .i64 n,.slice (some ⟨gx,0,none⟩) 1 1] w (Z3p w base v (n+1) (xs++[a])):=by
 obtain⟨A,cap,rfl,hc1,hc2⟩:=Z6 ho;have hs1:=fun w=>K4 (P:=lA) w 231 233 1 underlying231 Qb A n cap n (by omega);have hrd:Hid (Rd w (fun _=>True) (some ⟨gx,0,none⟩) [a]):=iD (Rd.of_blk (r:=[]) hx rfl trivial);have hone:Hid (∀ u ∈ [a],u.oneCell'=true):=iD (by simp[ha]);have hnb:(n+1)*8<=140737488355328:=by omega
 replace ho:=iD ho;clear hx ha;go_enter func160,ntmps160;go_wp2_with (at_builtin;refine X0 _ rfl (.tmp 23) (.tmp 24) 231 rfl base 233 (.pointer none) 1 8 underlying231 Z19 (.slice A n cap) n xs rfl ho.out (fun _=>True) (some ⟨gx,0,none⟩) 1 1 [a] rfl rfl hrd.out hone.out (by unfold maxLen;omega) (by omega) hbase ?_;intro v' w2 hrow2 hg2 hv2;replace hrow2:=iD hrow2;replace hg2:=iD hg2;obtain⟨VA,vc,rfl,_,_⟩:=Z6 hrow2.out;go_frame);go_ret;refine⟨.slice VA (n+1) vc,rfl,hrow2.out,hg2.out,?_⟩;rcases hv2 with h | h
 ·exact .inl h
 ·exact .inr (fun k hk=>by rw[h] at hk;injection hk with hk;omega)
theorem Zli(base n i:Nat)(g cap:Nat)(cur xs:List Value)(gx:Nat)(a:Value)(w:World)(hbg:base<=g)(hB:Blk w g 233 cur)(hc1:n+1<=cap)(hc2:cap<=maxLen)(hcl:cur.length=cap)(hct:cur.take (n)=xs)(hn:n<=2199023255552)(hi:i<n)
    (h1:∀ u ∈ xs,u.oneCell'=true) (hx:Blk w gx 233 [a]) (ha:a.oneCell'=true) (hne:gx ≠ g) :
    Calls lA 160 #[.slice (some ⟨g,0,none⟩) n cap,.int .i64 i,.slice (some ⟨gx,0,none⟩) 1 1] w (Z3p w base (.slice (some ⟨g,0,none⟩) n cap) (n+1) (xs.take (i)++[a]++xs.drop (i))):=by
  have e1:((i+1:Nat):Int)=(i:Int)+1:=rfl;have en:((n+1:Nat):Int)=(n:Int)+1:=rfl;have hs1:=fun w=>K4 (P:=lA) w 231 233 1 underlying231 Qb (some ⟨g,0,none⟩) n cap i (by omega);have hs2:=fun w=>Z06 (P:=lA) w 231 233 1 underlying231 Qb (some ⟨g,0,none⟩) n cap (n+1) hc1;have hs3:=fun w=>K4 (P:=lA) w 231 233 1 underlying231 Qb (some ⟨g,0,none⟩) (n+1) cap (i+1) (by omega);have hs4:=fun w=>K4 (P:=lA) w 231 233 1 underlying231 Qb (some ⟨g,0,none⟩) (n+1) cap i (by omega);have ec:∀ k,k<cap->cutA (some ⟨g,0,none⟩) cap k 1=some ⟨g,k,none⟩:=fun k hk=>by
    unfold cutA;rw[if_neg (by omega)];simp[Xj,lM]
  rw[en] at hs2;rw[e1,ec _ (by omega)] at hs3;rw[ec _ (by omega)] at hs1 hs4;have hov:Hid ((lX #[231,231] #[4] #[.slice (some ⟨gx,0,none⟩) 1 1,.slice (some ⟨g,(i+1),none⟩) (n+1 - (i+1)) (cap - (i+1))]).run lA w=.ok (.bool false) w):=iD (by
    refine Lib.run_overlaps_apart w _ _ 233 underlying231 1 (fun w=>by kernel_rfl) _ _ _ _ _ _ hne 233 233 1 (cap) ?_ ?_ (by omega) ?_ ?_
    · unfold Blk at hx;simp[lY,hx]
    · unfold Blk at hB;simp[lY,hB,hcl]
    · exact hx.frozen 0
    · exact hx.frozen 1)
  rw[show n+1 - (i+1)=n - i by omega] at hov hs3;have d1:decide (1<=(cap:Int) - (n:Int))=true:=by simp;omega
  have hgt:decide ((cap:Int)<(n:Int)+1)=false:=decide_eq_false (by omega);have hne2:((i:Int) == (n:Int))=false:=by rw[beq_eq_false_iff_ne];omega
  obtain⟨ys,hys⟩:∃ ys,ys=xs.take (i)++[a]++xs.drop (i):=⟨_,rfl⟩;rw[<-hys];clear ec e1 en;have hxl:xs.length=n:=by rw[<-hct,lC,hcl];omega
  have hS:(xs.drop (i)).length=(n - i):=by rw[lE,hxl]
  have hsrc:∀ j v,(xs.drop (i))[j]?=some v->w.cell? ((⟨g,i,none⟩:Addr).add j)=some v:=fun j v hv=>by
    have hj:=(lS.1 hv).1;rw[Xj,hB.cell];rw[lZ,<-hct,lT (by omega)] at hv;exact hv
  have hfin:Hid ((splice (splice cur ((i+1)) (xs.drop (i))) (i) [a]).length=cap/\(splice (splice cur ((i+1)) (xs.drop (i))) (i) [a]).take ((n+1))=ys):=iD (by
    have e:=Zlg cur (xs.drop (i)) a (i) (by omega);rw[show i+1=(i+1) by omega] at e;rw[e];have e2:cur.take (i)=xs.take (i):=by rw[<-hct,lR];congr 1;omega
    refine⟨by simp only[lB,lC,lE,lU,lV,hcl,hxl];omega,?_⟩;rw[e2,hys,<-lN,<-lN];rw[l0 (by simp only[lB,lC,lE,lU,lV,hxl];omega)])
  have hone1:Hid (∀ u ∈ xs.drop (i),u.oneCell'=true):=iD (fun u hu=>h1 u (l1 hu));have hone2:Hid (∀ u ∈ [a],u.oneCell'=true):=iD (by simp[ha]);obtain⟨S,hSS⟩:∃ S,S=xs.drop (i):=⟨_,rfl⟩;rw[<-hSS] at hS hsrc hfin hone1;have hB1:Hid (∀ nq,Blk ((w.drewN nq).setRow g (splice cur ((i+1)) S).toArray) g 233 (splice cur ((i+1)) S)):=iD (fun nq=>(hB.drewN nq).setRow_same _);have hX1:Hid (∀ nq,Blk ((w.drewN nq).setRow g (splice cur ((i+1)) S).toArray) gx 233 [a]):=iD (fun nq=>(hx.drewN nq).setRow_far hne _);have hlen1:Hid ((splice cur ((i+1)) S).length=cap):=iD (by
    simp only[splice,lB,lC,lE,hcl,hS];omega)
  replace hS:=iD hS;replace hsrc:=iD hsrc;replace hB:=iD hB;replace hcl:=iD hcl;clear hys hSS h1 ha hx hct hxl;have i1:(0:Int)<=(i:Int):=by omega
  go_enter func160,ntmps160;go_wp2_with fail;rw[run_callFunc_extern func212 (by kernel_rfl) (by kernel_rfl) (by kernel_rfl) (e:=lX #[231,231] #[4]) (by kernel_rfl)];rw[hov.out];simp only[lH];rw[Oper.upon_value];go_wp2_with fail;refine Ye 8 (by kernel_rfl) (by kernel_rfl) ?_;simp only[l2,l3,l4,l5];repeat (first
    | (refine Yp (lO 231 (.tmp 69) (some (.tmp 72)) none none) rfl rfl (.slice (some ⟨g,(i+1),none⟩) (n - i) (cap - (i+1))) (fun w _=>?_) ?_
       · exact (congrArg (fun r=>lH r _) (hs3 w))
       go_frame)
    | (refine Yp (lO 231 (.tmp 74) (some (.tmp 75)) none none) rfl rfl (.slice (some ⟨g,i,none⟩) (n+1 - i) (cap - i)) (fun w _=>?_) ?_
       · exact (congrArg (fun r=>lH r _) (hs4 w))
       go_frame)
    | go_big_quiet_step (fail))
  refine lD ?_;rintro _ ⟨nq,rfl⟩;refine Of rfl (.tmp 73) (.tmp 76) 231 231 rfl 233 1 underlying231 Qb g ((i+1)) (n - i) (cap - (i+1)) ⟨g,i,none⟩ (n+1 - i) (cap - i) rfl rfl cur 233 (hB.out.drewN nq) S (by rw[hS.out,show lP (n+1 - i) (n - i)=n - i from Nat.min_eq_right (by omega),lM]) hsrc.out (by rw[hS.out,hcl.out];omega) hone1.out ?_;have hB1':=hB1.out nq;have hX1':=hX1.out nq;have hgr:Hid (w.grownBy ((w.drewN nq).setRow g (splice cur ((i+1)) S).toArray) (some g)):=iD (setRow_grown' w nq g _);generalize (w.drewN nq).setRow g (splice cur ((i+1)) S).toArray=w2 at hB1' hX1' hgr ⊢;obtain⟨c1,hc1'⟩:∃ c1,c1=splice cur ((i+1)) S:=⟨_,rfl⟩;rw[<-hc1'] at hB1' hfin;have hl2:Hid (c1.length=cap):=iD (by rw[hc1'];exact hlen1.out);clear hB hsrc hov hS hs3 hc1' hB1 hX1 hlen1;go_wp2_with (refine Of rfl (.tmp 80) (.tmp 81) 231 231 rfl 233 1 underlying231 Qb g (i) (n+1 - i) (cap - i) ⟨gx,0,none⟩ 1 1 rfl rfl c1 233 hB1' [a] (by rw[show lP 1 (n+1 - i)=1 from l6 (by omega)];rfl) (U9 hX1' 0 [a] [] rfl) (by rw[hl2.out];simp;omega) hone2.out ?_);go_ret;refine⟨_,rfl,Zbj hbg (hB1'.setRow_same _) hc1 hc2 hfin.out.1 hfin.out.2,Z5b hgr.out (Z33 _),.inl rfl⟩
theorem Zlj:∃ i,lA.info? 233=some i/\i.zero=some (.pointer none)/\i.size=1/\i.bytes=8:=by
 have h:=Z19.info;cases hq:lA.info? 233 with
 | none=>simp[hq] at h
 | some i =>
  simp only[hq,Option.map_some,Option.some.injEq,Prod.mk.injEq] at h;exact⟨i,rfl,h.1,h.2.1,h.2.2⟩
theorem Zlk(w:World)(ty:TypeId)(g n i cap:Nat)(P:List Value)(hP:P.length=i)(hc:∀ j v,P[j]?=some v->w.cell? ((⟨g,0,none⟩:Addr).add j)=some v)(hi:i<n)(hcap:cap<n+1)(hn:n<=2199023255552) :
  ∃ nc Z W2,(l7 #[231,3] ty #[.slice (some ⟨g,0,none⟩) i cap,.int .i64 ((n+1 - i:Nat):Int)]).run lA w=.ok (.slice (some ⟨w.heap.size,0,none⟩) (n+1) nc) W2 /\
   Blk W2 w.heap.size 233 (P++Z)/\(P++Z).length=nc/\n+1<=nc/\nc<=maxLen/\Below w.heap.size w W2:=by
 obtain⟨inf,hi0,hz,hsz,hby⟩:=Zlj;have hold:(l8 inf.size i (.slice (some ⟨g,0,none⟩) i cap)).run lA w.drew=.ok P.toArray w.drew:=by
  have hl:=run_loadCells_list (P:=lA) w.drew ⟨g,0,none⟩ P hc;simp only[l8,hsz,<-hP];simpa using hl
 have hfit:Builtin.nextslicecap (i+(n+1 - i)) cap*inf.bytes<=281474976710656:=by rw[hby];exact growslice_fits (by omega) (by omega)
 have hr:=Lib.run_append_grow_zeros (P:=lA) w 231 3 ty 233 inf (.pointer none) .i64 .i64 underlying231 underlying3 hi0 hz (some ⟨g,0,none⟩) i cap P hold (n+1 - i) (by omega) (by omega) (by omega) (by omega) (by rw[hby];omega) hfit;have en:i+(n+1 - i)=n+1:=by omega
 rw[en] at hr;have hge:=grownCap_ge w (n+1) cap 233;have hle:=grownCap_le_maxLen w (n+1) cap 233 (by unfold maxLen;omega);obtain⟨nc,hnc⟩:∃ nc,nc=grownCap w (n+1) cap 233:=⟨_,rfl⟩;rw[<-hnc] at hr hge hle;refine⟨nc,(lQ (lG none).cells (n+1 - i)).toList++(lQ (lG none).cells (nc - (n+1))).toList,_,hr,?_,?_,hge,hle,?_⟩
 ·have:=heap_alloc_new w.drew (.cells (P.toArray++lQ (lG none).cells (n+1 - i)++lQ (lG none).cells (nc - (n+1))) 233);unfold Blk;rw[show w.drew.heap.size=w.heap.size from rfl] at this;rw[this];simp
 ·have e2:(lG none).cells.size=1:=rfl;simp only[lB,Array.length_toList,size_zeroCells,hP,e2];omega
 ·exact ((lL w.heap.size w).drew).alloc (lF _) _
theorem Zll(base n i:Nat)(g cap:Nat)(cur xs:List Value)(gx:Nat)(a:Value)(w:World)(hbase:base<=w.heap.size)(hB:Blk w g 233 cur)(hc0:n<=cap)(hc1:cap<n+1)(hcl:cur.length=cap)(hct:cur.take (n)=xs)(hn:n<=2199023255552)(hi:i<n)
    (h1:∀ u ∈ xs,u.oneCell'=true) (hx:Blk w gx 233 [a]) (ha:a.oneCell'=true) :
    Calls lA 160 #[.slice (some ⟨g,0,none⟩) n cap,.int .i64 i,.slice (some ⟨gx,0,none⟩) 1 1] w (Z3p w base (.slice (some ⟨g,0,none⟩) n cap) (n+1) (xs.take (i)++[a]++xs.drop (i))):=by
  have e1:((i+1:Nat):Int)=(i:Int)+1:=rfl;have hs1:=fun w=>K4 (P:=lA) w 231 233 1 underlying231 Qb (some ⟨g,0,none⟩) n cap i (by omega);have hs2:=fun w=>Z06 (P:=lA) w 231 233 1 underlying231 Qb (some ⟨g,0,none⟩) n cap i (by omega);have ec:∀ g k c,k<c->cutA (some ⟨g,0,none⟩) c k 1=some ⟨g,k,none⟩:=fun g k c hk=>by
    unfold cutA;rw[if_neg (by omega)];simp[Xj,lM]
  rw[ec _ _ _ (by omega)] at hs1;have hxl:xs.length=n:=by rw[<-hct,lC,hcl];omega
  have hP:(xs.take (i)).length=i:=by rw[lC,hxl];omega
  have hS:(xs.drop (i)).length=(n - i):=by rw[lE,hxl]
  obtain⟨ys,hys⟩:∃ ys,ys=xs.take (i)++[a]++xs.drop (i):=⟨_,rfl⟩;rw[<-hys];have hPc:∀ j v,(xs.take (i))[j]?=some v->w.cell? ((⟨g,0,none⟩:Addr).add j)=some v:=fun j v hv=>by
    have hj:=(lS.1 hv).1;rw[Xj,hB.cell,Nat.zero_add];rw[<-hct,lR] at hv;rw[lT (by omega)] at hv;exact hv
  have hSc:∀ j v,(xs.drop (i))[j]?=some v->w.cell? ((⟨g,i,none⟩:Addr).add j)=some v:=fun j v hv=>by
    have hj:=(lS.1 hv).1;rw[Xj,hB.cell];rw[lZ,<-hct,lT (by omega)] at hv;exact hv
  have hone1:Hid (∀ u ∈ xs.drop (i),u.oneCell'=true):=iD (fun u hu=>h1 u (l1 hu));have hone2:Hid (∀ u ∈ [a],u.oneCell'=true):=iD (by simp[ha]);obtain⟨nc,Z,W2,hrun,hN,hNl,hn1,hn2,hbl⟩:∃ nc Z W2,(∀ ty,(l7 #[231,3] ty #[.slice (some ⟨g,0,none⟩) i cap,.int .i64 ((n+1 - i:Nat):Int)]).run lA w=.ok (.slice (some ⟨w.heap.size,0,none⟩) (n+1) nc) W2) /\
      Blk W2 w.heap.size 233 (xs.take (i)++Z)/\(xs.take (i)++Z).length=nc/\n+1<=nc/\nc<=maxLen/\Below w.heap.size w W2:=by
    obtain⟨nc,Z,W2,h⟩:=Zlk w 0 g n i cap (xs.take (i)) hP hPc hi hc1 hn;exact⟨nc,Z,W2,fun ty=>h.1,h.2⟩
  obtain⟨gn,hgn⟩:∃ gn,gn=w.heap.size:=⟨_,rfl⟩;rw[<-hgn] at hrun hN;have hs3:=fun w=>K4 (P:=lA) w 231 233 1 underlying231 Qb (some ⟨gn,0,none⟩) (n+1) nc i (by omega);have hs4:=fun w=>K4 (P:=lA) w 231 233 1 underlying231 Qb (some ⟨gn,0,none⟩) (n+1) nc (i+1) (by omega);rw[ec _ _ _ (by omega)] at hs3 hs4;rw[e1,show n+1 - (i+1)=n - i by omega] at hs4;have hX2:=hx.below hbl hx.lt;have hgl:g<w.heap.size:=hB.lt;have hgxl:gx<w.heap.size:=hx.lt;obtain⟨PP,hPP⟩:∃ PP,PP=xs.take (i):=⟨_,rfl⟩;obtain⟨S,hSS⟩:∃ S,S=xs.drop (i):=⟨_,rfl⟩;rw[<-hSS] at hS hSc hone1 hys;rw[<-hPP] at hP hN hNl hys;have hc1e:splice (PP++Z) (i) [a]=(PP++[a])++Z.drop 1:=by
    rw[<-hP,Z34,<-lN];rfl
  have hPl:(PP++[a]).length=(i+1):=by rw[lB,hP];simp
  have hc2e:Hid ((splice (splice (PP++Z) (i) [a]) ((i+1)) S).length=nc/\(splice (splice (PP++Z) (i) [a]) ((i+1)) S).take ((n+1))=ys):=iD (by
    rw[hc1e];have hZ:Z.length=nc - i:=by rw[lB,hP] at hNl;omega
    have e:=Z34 (PP++[a]) (Z.drop 1) S;rw[hPl] at e;rw[e];refine⟨by simp only[lB,hPl,hS,lE,hZ];omega,?_⟩;rw[hys,<-lN,l0 (by simp only[lB,hS,hP,lU,lV];omega)])
  have hSc2:Hid (∀ W,Below w.heap.size w W->∀ j v,S[j]?=some v->W.cell? ((⟨g,i,none⟩:Addr).add j)=some v):=iD (fun W hW j v hv=>by
    rw[hW.cell (p:=(⟨g,i,none⟩:Addr).add j) (by rw[Gs];exact hgl)];exact hSc j v hv)
  have hc1l:Hid ((splice (PP++Z) (i) [a]).length=nc):=iD (by
    have hZ:Z.length=nc - i:=by rw[lB,hP] at hNl;omega
    rw[hc1e,lB,hPl,lE,hZ];omega)
  have d1:decide (1<=(cap:Int) - (n:Int))=false:=by simp;omega
  have hgt:decide ((cap:Int)<(n:Int)+1)=true:=decide_eq_true (by omega);have hne2:((i:Int) == (n:Int))=false:=by rw[beq_eq_false_iff_ne];omega
  have hsrcX:Hid (∀ j v,[a][j]?=some v->W2.cell? ((⟨gx,0,none⟩:Addr).add j)=some v):=iD (U9 hX2 0 [a] [] rfl);replace hN:=iD hN;replace hNl:=iD hNl;replace hrun:=iD hrun;replace hbl:=iD hbl;replace hS:=iD hS;replace hgn:=iD hgn;clear hys hSS hPP h1 ha hx hct hxl hSc hPc hc1e hPl hP hX2 hB hcl ec e1;have i1:(0:Int)<=(i:Int):=by omega
  go_enter func160,ntmps160;go_wp2_with (first
    | (at_builtin;refine Lib.wpList_append_run _ rfl (.tmp 34) (.tmp 39) _ _ rfl (.slice (some ⟨g,0,none⟩) i cap) (.int .i64 ((n+1 - i:Nat):Int)) rfl (congrArg (Value.int .i64) (by omega)) _ _ (hrun.out _) ?_;go_frame)
    | (refine Of rfl (.tmp 43) (.tmp 44) 231 231 rfl 233 1 underlying231 Qb gn (i) (n+1 - i) (nc - i) ⟨gx,0,none⟩ 1 1 rfl rfl (PP++Z) 233 hN.out [a] (by rw[show lP 1 (n+1 - i)=1 from l6 (by omega)];rfl) hsrcX.out (by rw[hNl.out];simp;omega) hone2.out ?_;go_frame))
  have hB3:Hid (∀ nq,Blk ((W2.setRow gn (splice (PP++Z) (i) [a]).toArray).drewN nq) gn 233 (splice (PP++Z) (i) [a])):=iD (fun nq=>(hN.out.setRow_same _).drewN nq);have hbl3:Hid (∀ nq,Below w.heap.size w ((W2.setRow gn (splice (PP++Z) (i) [a]).toArray).drewN nq)):=iD (fun nq=>below_drewN (below_setRow hbl.out (by rw[hgn.out];exact lF _) _) nq);refine Ye 8 (by kernel_rfl) (by kernel_rfl) ?_;simp only[l2,l3,l4,l5];repeat (first
    | (refine Yp (lO 231 (.tmp 46) (some (.tmp 49)) none none) rfl rfl (.slice (some ⟨gn,(i+1),none⟩) (n - i) (nc - (i+1))) (fun w _=>?_) ?_
       · exact (congrArg (fun r=>lH r _) (hs4 w))
       go_frame)
    | (refine Yp (lO 231 (.tmp 51) (some (.tmp 52)) none none) rfl rfl (.slice (some ⟨g,i,none⟩) (n - i) (cap - i)) (fun w _=>?_) ?_
       · exact (congrArg (fun r=>lH r _) (hs1 w))
       go_frame)
    | go_big_quiet_step (fail))
  refine lD ?_;rintro _ ⟨nq,rfl⟩;have hB4:=hB3.out nq;have hbl4:=hbl3.out nq;generalize (W2.setRow gn (splice (PP++Z) (i) [a]).toArray).drewN nq=W4 at hB4 hbl4 ⊢;refine Of rfl (.tmp 50) (.tmp 53) 231 231 rfl 233 1 underlying231 Qb gn ((i+1)) (n - i) (nc - (i+1)) ⟨g,i,none⟩ (n - i) (cap - i) rfl rfl (splice (PP++Z) (i) [a]) 233 hB4 S (by rw[hS.out,show lP (n - i) (n - i)=n - i from Nat.min_self _,lM]) (hSc2.out _ hbl4) (by rw[hS.out,hc1l.out];omega) hone1.out ?_;clear hB3 hbl3 hrun;go_wp2;go_ret;refine⟨.slice (some ⟨gn,0,none⟩) (n+1) nc,rfl,Zbj (by rw[hgn.out];exact hbase) (hB4.setRow_same _) hn1 hn2 hc2e.out.1 hc2e.out.2,?_,.inr (fun k hk=>?_)⟩
  · have hb5:=below_setRow hbl4 (by rw[hgn.out];exact lF _) (splice (splice (PP++Z) (i) [a]) ((i+1)) S).toArray (g:=gn)
    exact Z4d hb5
  · have : gn=k:=by simpa[Value.ownBlock] using hk
    rw[<-this,hgn.out];exact lF _
theorem Zbk(base:Nat)(v:Value)(n i:Nat)(xs:List Value)(gx:Nat)(a:Value)(w:World)(ho:w.ownsRow base 233 1 v n xs)(hn:n<=2199023255552)(hi:i<=n)
  (h1:∀ u ∈ xs,u.oneCell'=true) (hx:Blk w gx 233 [a]) (ha:a.oneCell'=true) (hbase:base<=w.heap.size) (hne:v.ownBlock ≠ some gx) :
  Calls lA 160 #[v,.int .i64 i,.slice (some ⟨gx,0,none⟩) 1 1] w (Z3p w base v (n+1) (xs.take (i)++[a]++xs.drop (i))):=by
 by_cases he:i=n
 ·subst he;have hxl:xs.length=i:=by simpa using ho.1
  rw[List.take_of_length_le (by omega),List.drop_of_length_le (by omega),List.append_nil];exact Zlh base v i xs gx a w ho hn hx ha hbase
 ·obtain⟨g,cap,cur,rfl,hbg,hB,hc1,hc2,hcl,hct⟩:=Z6m ho (by omega);have hg:gx ≠ g:=fun e=>hne (by rw[e];rfl);by_cases hr:n+1<=cap
  ·exact Zli base n i g cap cur xs gx a w hbg hB hr hc2 hcl hct hn (by omega) h1 hx ha hg
  ·exact Zll base n i g cap cur xs gx a w hbase hB hc1 (by omega) hcl hct hn (by omega) h1 hx ha
end
end Go.Proofs.YtfdimggmljkkbaaGreatDoor
