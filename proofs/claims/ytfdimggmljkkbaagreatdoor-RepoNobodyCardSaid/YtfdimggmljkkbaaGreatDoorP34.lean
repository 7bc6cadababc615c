import Derived.Test.YtfdimggmljkkbaaGreatDoorP33
import Derived.Shelf.SlicesQ.Reverse
open Array renaming getElem?_modify → lT
open Go.Proofs.Tryz renaming prog → lD
open Go.RowKit.Below renaming refl → lL
open Go.Sort renaming flatK → lE, putCells → lG, putRowK → lI, ahead → lJ, onCells → lS
open Go.World renaming setRow → lK
open List renaming length_reverse → lC, mem_singleton → lF, getElem?_eq_getElem → lH, map_cons → lM, mem_cons → lN, replicate → lO, mem_map → lP, length_map → lQ, getElem?_take → lR
open Nat renaming le_refl → lA
open Subtype renaming val → lB
section
namespace Go.Proofs.YtfdimggmljkkbaaGreatDoor
open Go.RowKit
def inB(N:List PNd)(ds:List Str):Bool:=ds.all fun d=>N.any fun y=>y.id == d
theorem Ze1{N:List PNd}{ds:List Str}(h:inB N ds=true):InN N ds:=fun d hd=>by
 unfold inB at h;have h1:=List.all_eq_true.1 h d hd;obtain⟨y,hy,e⟩:=List.any_eq_true.1 h1;obtain⟨j,hj,hje⟩:=List.getElem_of_mem hy;exact⟨j,y,by rw[lH hj,hje],by simpa using e⟩
theorem RpOk.step{L:List PCom}{T:Tab}(hO:RpOk L T)(F:List PCom)(hF:HistOk (Zi L (Zb T)++F))(C:List Chg)(hA:Yy T C=0)(hck:cOk C)(hin:InN (Z5 (Zi L (Zb T)++F)) (Zb (Zu T C))):RpOk (Zi L (Zb T)++F) (Zu T C) :=
 ⟨hF,hin,(Z1s hA hO.ok hck).1,(Z1s hA hO.ok hck).2⟩
theorem RpOk.nil:RpOk [] []:=⟨HistOk.nil,(fun d hd=>by cases hd),rfl,(fun b hb=>by cases hb)⟩
theorem Ze2{L:List PCom}{T:Tab}{S:DS}(hO:RpOk L T)(C:List Chg)(hA:Yy T C=0)(hck:cOk C)(hin:inB (Z5 (Zi L (Zb T)++[])) (Zb (Zu T C))=true){m k f:Nat}(hr:Roomy S m (65536+k) (f+1))(hm:m<4000000000000) :
  K2 T [] C S=0/\Roomy (Ku T [] C S) 0 k f/\RpOk (Zi L (Zb T)++[]) (Zu T C):=by
 obtain⟨hmay,hok⟩:=Z1s hA hO.ok hck;have hpl:=Z65 hmay hok;have hPt:Xk (Zu T C)=Jh (Zu T C):=by unfold Xk;rw[if_pos hmay]
 rw[<-hPt] at hpl;have hd:=(hr.weak (lA m) (k':=(Xk (Zu T C)).length+k) (by omega) (lA _)).names hm;refine⟨?_,?_,hO.step [] (by rw[List.append_nil];exact hO.hist.past _) C hA hck (Ze1 hin)⟩
 ·unfold K2;rw[if_pos hA];exact hd.e
 ·unfold Ku;rw[if_pos hA];exact hd.roomy
theorem Z7k{L:List PCom}{T:Tab}{S:DS}(hO:RpOk L T){ra n nt t:Str}(hmy:ComMay L T ra n nt t){c:PCom}(hc:c=Vp L T ra n nt t)(hth:Qg (Zi L (Zb T)) c=false)(hP:(Zi L (Zb T)).length<200)(hA:Yy T (Xd n (Z4 T n) c)=0)
  (hin:inB (Z5 (Zi L (Zb T)++[c])) (Zb (Zu T (Xd n (Z4 T n) c)))=true) {m k f:Nat} (hr:Roomy S m (190536+k) (f+1+1)) (hm:m<3999999999999) :
  Vn L T S n (Z4 T n) c=0/\Roomy (Vo L T S n (Z4 T n) c) 0 k f/\RpOk (Zi L (Zb T)++[c]) (Zu T (Xd n (Z4 T n) c)):=by
 obtain⟨hn,htag,ha,hntl,htl,hft,h8⟩:=hmy;obtain⟨hgi,hgo,hgl⟩:=Gp hO n;have hPh:=hO.hist.past (Zb T);obtain⟨hcf,hcm⟩:=Zdq hPh (ids:=Z4 T n) (n:=nt) (tx:=t) ha hntl htl hft h8;have hcd:mkC (Zi L (Zb T)) (Z4 T n) ra nt t=c:=hc.symm;have hnx:NextOk (Z5 (Zi L (Zb T))) (Zi L (Zb T)) c:=by
  rw[hc];refine Zdr hPh hgi ha hntl htl hft h8 (Zdx ?_);rw[hcd];exact hth
 rw[hcd] at hcf hcm;have hel:=Z6j hcf hcm;have hck:cOk (Xd n (Z4 T n) c):=fun x hx=>by
  obtain rfl:=lF.1 hx;exact⟨hgo,fun d hd=>by
   obtain rfl:=lF.1 hd;exact Q0 c⟩
 obtain⟨hmay,hok⟩:=Z1s hA hO.ok hck;have hpl:=Z65 hmay hok;have hPt:Xk (Zu T (Xd n (Z4 T n) c))=Jh (Zu T (Xd n (Z4 T n) c)):=by unfold Xk;rw[if_pos hmay]
 rw[<-hPt] at hpl;obtain⟨hn1,hn2,hn3⟩:=Zb4 (Q0 c);obtain⟨he,_,hr1⟩:=(hr.weak (lA m) (k':=(Q7 c).length+(65536+k)) (by omega) (lA _)).obj (s:=Km (idC c)) (by omega) hn1 hn2;have hd:=(hr1.weak (lA (m+1)) (k':=(Xk (Zu T (Xd n (Z4 T n) c))).length+k) (by omega) (lA _)).names (by omega);have hfu:G2 (Zi L (Zb T)) c=false:=by
  unfold G2;rw[hth];simp;omega
 have hfr:Jq (Zi L (Zb T)) c=[c]:=by unfold Jq;rw[hth];rfl
 have hch:Xa S (Xi [c])=0/\Yv S (Xi [c])=(Call.write (Km (idC c)) (Q7 c)).turn S:=by
  unfold Xi;simp only[lM,List.map_nil,Xa,Yv];rw[if_pos he,if_pos he];exact⟨rfl,rfl⟩
 refine⟨?_,?_,hO.step [c] (hPh.snoc hP hnx) _ hA hck (Ze1 hin)⟩
 ·unfold Vn K2;rw[if_neg (by rw[hfu];decide),if_pos hA,hfr,Z28,if_pos hch.1,hch.2];exact hd.e
 ·unfold Vo Ku;rw[if_neg (by rw[hfu];decide),if_pos hA,hfr,Z29,if_pos hch.1,hch.2];exact hd.roomy
theorem Gq.ok{X:Nat->Prop}{w0:World}{base:Nat->Prop}{r rb g:Nat}{ra:Str}{L:List PCom}{T:Tab}{S:DS}{w w':World}(h:Gq X w0 base r rb g ra L T 0 S w w'):∃ by',RpM X w0 base r rb g by' ra false false L T S w':=by
 obtain⟨_,_,by',rbr,hrb,hM⟩:=h;obtain rfl:=hrb (by decide);exact⟨by',hM⟩
def O1:Str:=[97,110,110]
def Zn:Str:=[109,97,105,110]
def X4:Str:=[100,101,118]
def aC1:PCom:=Vp [] [] O1 Zn [] [104,105]
def A1L:List PCom:=Zi [] (Zb [])++[aC1]
def A1T:Tab:=Zu [] (Xd Zn (Z4 [] Zn) aC1)
def A2L:List PCom:=Zi A1L (Zb A1T)++[]
def A2T:Tab:=Zu A1T [⟨X4,[],Z4 A1T Zn⟩]
def aC2:PCom:=Vp A2L A2T O1 X4 [] [104,105,33]
def A3L:List PCom:=Zi A2L (Zb A2T)++[aC2]
def A3T:Tab:=Zu A2T (Xd X4 (Z4 A2T X4) aC2)
def aC3:PCom:=Vp A3L A3T O1 Zn [] [105]
def A4L:List PCom:=Zi A3L (Zb A3T)++[aC3]
def A4T:Tab:=Zu A3T (Xd Zn (Z4 A3T Zn) aC3)
def aH:List Str:=[idC aC2,idC aC3]
def A5L:List PCom:=Zi A4L (Zb A4T)++[]
def A5T:Tab:=Zu A4T [⟨Zn,Z4 A4T Zn,aH⟩]
theorem Zoy{a b:Str}(h:Ze b a=true):Jv [a,b]=[b,a]:=by
 have hne:a ≠ b:=fun e=>by rw[e,G5] at h;cases h
 have hr:=Zd3 (l:=[a,b]) (by simp[hne]);have hl:=Z44 [a,b];have hm:=Z45 [a,b]
 match hs:Jv [a,b],hl with
 | [x,y],_ =>
  rw[hs] at hr hm;have hx:=(hm x).1 (by simp);have hy:=(hm y).1 (by simp);simp only[lN,List.not_mem_nil,or_false] at hx hy;have hxy:Ze x y=true:=by simpa[rises] using hr
  have hab:=Z4s b a h;rcases hx with rfl | rfl <;> rcases hy with rfl | rfl
  ·rw[G5] at hxy;cases hxy
  ·rw[hab] at hxy;cases hxy
  ·rfl
  ·rw[G5] at hxy;cases hxy
theorem Ze3:Yj (Z5 (Zi A4L (Zb A4T))) (Z4 A4T Zn++Z4 A4T X4)=aH:=by
 have h1:Jw (Z5 (Zi A4L (Zb A4T))) (Y6 (Z5 (Zi A4L (Zb A4T))) (lO (Z5 (Zi A4L (Zb A4T))).length false) (Z4 A4T Zn++Z4 A4T X4)) (Z5 (Zi A4L (Zb A4T))).length (lO (Z5 (Zi A4L (Zb A4T))).length false) []=[idC aC3,idC aC2]:=by decide +kernel
 have h2:Ze (idC aC2) (idC aC3)=true:=by decide +kernel
 unfold Yj Vl;rw[h1,Zoy h2];rfl
theorem al1:ComMay [] [] O1 Zn [] [104,105]/\Qg (Zi [] (Zb [])) aC1=false/\(Zi [] (Zb [])).length<200/\Yy [] (Xd Zn (Z4 [] Zn) aC1)=0/\inB (Z5 A1L) (Zb A1T)=true :=
 ⟨⟨by decide,.inl rfl,by decide,by decide,by decide,by decide +kernel,by decide +kernel⟩,by decide +kernel,by decide,by decide +kernel,by decide +kernel⟩
theorem al2:Z4 A1T X4=[]/\Z4 A1T Zn ≠ []/\Yy A1T [⟨X4,[],Z4 A1T Zn⟩]=0/\inB (Z5 A2L) (Zb A2T)=true :=
 ⟨by decide +kernel,by decide +kernel,by decide +kernel,by decide +kernel⟩
theorem al3:ComMay A2L A2T O1 X4 [] [104,105,33]/\Qg (Zi A2L (Zb A2T)) aC2=false/\(Zi A2L (Zb A2T)).length<200/\Yy A2T (Xd X4 (Z4 A2T X4) aC2)=0/\inB (Z5 A3L) (Zb A3T)=true :=
 ⟨⟨by decide,.inr (by decide),by decide,by decide,by decide,by decide +kernel,by decide +kernel⟩,by decide +kernel,by decide +kernel,by decide +kernel,by decide +kernel⟩
theorem al4:ComMay A3L A3T O1 Zn [] [105]/\Qg (Zi A3L (Zb A3T)) aC3=false/\(Zi A3L (Zb A3T)).length<200/\Yy A3T (Xd Zn (Z4 A3T Zn) aC3)=0/\inB (Z5 A4L) (Zb A4T)=true :=
 ⟨⟨by decide,.inr (by decide),by decide,by decide,by decide,by decide +kernel,by decide +kernel⟩,by decide +kernel,by decide +kernel,by decide +kernel,by decide +kernel⟩
theorem al5:Z4 A4T Zn ≠ []/\Z4 A4T X4 ≠ []/\Yy A4T [⟨Zn,Z4 A4T Zn,aH⟩]=0/\inB (Z5 A5L) (Zb A5T)=true :=
 ⟨by decide +kernel,by decide +kernel,by decide +kernel,by decide +kernel⟩
theorem al6:Z4 A5T Zn ≠ []/\Xw (J2 (Zi A5L (Zb A5T)) (Z4 A5T Zn))=[105,33]:=⟨by decide +kernel,by decide +kernel⟩
end Go.Proofs.YtfdimggmljkkbaaGreatDoor
end
section
open Go.Proofs.Tryz
namespace Go.Proofs
open Go.Shelf
def Tryz.revC_ren:Go.Shelf.Ren:=⟨fun | 35=>148 | n=>n,fun | 22=>25 | 23=>82 | 3=>3 | 4=>4 | 0=>0 | n=>n,fun | n=>n⟩
theorem Tryz.revC:Go.Proofs.SlLaysE0.n35 lD Tryz.revC_ren:={
 mixed:=by kernel_rfl
 f35:=⟨Tryz.f148.name,by decide,func148.trans (congrArg some (by kernel_rfl))⟩
 t0:=underlying0
 a0:=isAgg0
 z0:=sizeOf0
 v0:=zeroValue0
 t3:=underlying3
 a3:=isAgg3
 z3:=sizeOf3
 v3:=zeroValue3
 t4:=underlying4
 a4:=isAgg4
 z4:=sizeOf4
 v4:=zeroValue4
 t22:=underlying25
 a22:=isAgg25
 z22:=sizeOf25
 v22:=zeroValue25 }
end Go.Proofs
end
section
set_option maxHeartbeats 1000000
namespace Go.Proofs.YtfdimggmljkkbaaGreatDoor
open Go.RowKit
abbrev C4:={ cs:List Value // cs.length=4/\∀ v ∈ cs,v.oneCell'=true }
instance : Inhabited C4:=⟨⟨[Z2,Z2,Z2,Z2],rfl,by simp[Value.oneCell']⟩⟩
def toC:(l:List (List Value))->(h:∀ cs ∈ l,cs.length=4/\∀ v ∈ cs,v.oneCell'=true)->List C4
 | [],_=>[]
 | d :: l,h=>⟨d,h d (by simp)⟩ :: toC l (fun e he=>h e (by simp[he]))
theorem Ze6:∀ (l:List (List Value)) (h:∀ cs ∈ l,cs.length=4/\∀ v ∈ cs,v.oneCell'=true),(toC l h).map lB=l
 | [],_=>rfl
 | d :: l,h=>by simp only[toC,lM,Ze6 l]
theorem Ze7(d:List C4)(j:Nat)(hj:j<d.length*4):(d.map lB).flatten[j]?=some ((lE lB 4 d.toArray)[j]!):=by
 have h1:(lE lB 4 d.toArray)[j]! = (d.toArray[j / 4]!).val[j % 4]!:=Sort.get_flatK lB 4 d.toArray j (by simpa using hj);have hk:j / 4<d.length:=by omega
 have h2:(d.toArray[j / 4]!)=d[j / 4]:=by simp[hk]
 rw[h1,h2];have h4:(d[j / 4]).val[j % 4]?=some ((d[j / 4]).val[j % 4]!):=by
  have h3:j % 4<(d[j / 4]).val.length:=by rw[(d[j / 4]).2.1];omega
  rw[lH h3,List.getElem!_eq_getElem?_getD,lH h3];rfl
 have h5:=Z43 (d.map lB) (j / 4) (j % 4) (d[j / 4]).val ((d[j / 4]).val[j % 4]!) (fun cs hcs=>by
  obtain⟨x,_,rfl⟩:=lP.1 hcs;exact x.2.1) (by simp[hk]) h4
 rwa [show j / 4*4+j % 4=j by omega] at h5
theorem Y7.reverse{w:World}{ok:Nat->Prop}{xs:List (List Value)}{L:List PCom}(h:Y7 w ok xs L):Y7 w ok xs.reverse L.reverse:=by
 refine⟨by rw[lC,lC,h.1],fun i c cs hc hx=>?_⟩;have hi:=(List.getElem?_eq_some_iff.1 hc).1;rw[lC] at hi;rw[List.getElem?_reverse hi] at hc;rw[List.getElem?_reverse (by rw[h.1];exact hi),h.1] at hx;exact h.2 _ c cs hc hx
theorem Z0p:Q3:=by
 intro L lo ok v w hL hrow hlo;obtain⟨xs,hx,h1,h2⟩:=hrow;rcases h2 with ⟨rfl,h0⟩ | ⟨g,cap,cur,rfl,hg,hh,hc1,hc2,hc3,hc4⟩
 ·have hl0:L=[]:=List.eq_nil_of_length_eq_zero h0;subst hl0;refine (Zat w).mono ?_;rintro e w' ⟨rfl,hb⟩;exact⟨rfl,Yh.nil,hb.mono hlo⟩
 ·have hB:Blk w g 82 cur.toList:=by unfold Blk;simpa using hh
  have h4:∀ cs ∈ xs,cs.length=4/\∀ v ∈ cs,v.oneCell'=true:=fun cs hcs=>⟨hx.four cs hcs,fun v hv=>hx.one_ v (List.mem_flatten.2 ⟨cs,hcs,hv⟩)⟩;obtain⟨d,hd⟩:∃ d,d=toC xs h4:=⟨_,rfl⟩;have hdm:d.map lB=xs:=by rw[hd];exact Ze6 xs h4
  have hdl:d.length=L.length:=by have:=congrArg List.length hdm;rw[lQ,hx.1] at this;exact this
  have hH:Sort.HoldsK lB 4 w g 0 d.toArray:=by
   intro j hj;have hj':j<d.length*4:=by simpa using hj
   refine⟨?_,?_⟩
   ·rw[Nat.zero_add];show w.cell? ⟨g,j,none⟩=_;rw[hB.cell];have h5:=Ze7 d j hj';rw[hdm,<-hc4,lR,if_pos (by omega)] at h5;exact h5
   ·exact hB.frozen _
  have hcon:=AnyQ.slices_Reverse Tryz.revC 4 (fun w=>by kernel_rfl) (fun w=>by kernel_rfl) (lB:C4->List Value) (fun x=>x.2.1) (fun x=>x.2.2) g 0 cap d.toArray w hH (by simp;omega);have hsz:d.toArray.size=L.length:=by simpa using hdl
  rw[hsz] at hcon;refine Calls.mono hcon ?_;rintro e w' ⟨rfl,n,rfl⟩;obtain⟨R,hR⟩:∃ R,R=d.reverse:=⟨_,rfl⟩;have hRa:d.toArray.reverse=R.toArray:=by rw[hR];simp
  rw[hRa];have hRm:R.map lB=xs.reverse:=by rw[hR,List.map_reverse,hdm]
  have hRl:R.length=L.length:=by rw[hR,lC,hdl]
  clear hcon;have hheap:∀ k:Nat,(lI lB 4 (lJ w n) g 0 R.toArray).heap[k]?=(w.heap.modify g (lS (lG id 0 (lE lB 4 R.toArray))))[k]?:=fun k=>rfl;have hkeep:∀ k:Nat,k ≠ g->(lI lB 4 (lJ w n) g 0 R.toArray).heap[k]?=w.heap[k]?:=fun k hk=>by
   rw[hheap,lT,if_neg (fun e=>hk e.symm)]
  have hsize:(lI lB 4 (lJ w n) g 0 R.toArray).heap.size=w.heap.size:=by
   show (w.heap.modify g (lS (lG id 0 (lE lB 4 R.toArray)))).size=_;simp
  refine⟨rfl,⟨xs.reverse,(hx.stay (fun b hb hl=>hkeep b (by have:=hb.2;omega)) (fun _ h _=>h)).reverse,?_,.inr ⟨g,cap,lG id 0 (lE lB 4 R.toArray) cur,?_,hg,?_,?_,hc2,?_,?_⟩⟩,⟨rfl,rfl,rfl,by rw[hsize];exact lA _,fun k hk=>hkeep k (by omega)⟩⟩
  ·rw[Z24 _ (fun cs hcs=>hx.four cs (List.mem_reverse.1 hcs)),lC,lC,hx.1]
  ·rw[lC]
  ·rw[hheap,lT,if_pos rfl,hh];rfl
  ·rw[lC];exact hc1
  ·rw[<-hc3];simp[lG]
  ·rw[<-hRm,lC];apply List.ext_getElem?;intro j;rw[lR];by_cases hj:j<L.length*4
   ·rw[if_pos hj,Ze7 R j (by omega)];have hjc:j<cur.size:=by rw[hc3];omega
    have hjf:j<(lE lB 4 R.toArray).size:=by rw[Sort.size_flatK];simp[hRl];omega
    simp[lG,hjc,hRl,hj]
   ·rw[if_neg hj]
    symm
    rw[List.getElem?_eq_none_iff,Z24 _ (fun cs hcs=>by obtain⟨y,_,rfl⟩:=lP.1 hcs;exact y.2.1),lQ,hRl];omega
end Go.Proofs.YtfdimggmljkkbaaGreatDoor
end
section
namespace Go.Proofs.YtfdimggmljkkbaaGreatDoor
open Go.RowKit
def aS0:DS:=DS.new 16777216
def aS1:DS:=Vo [] [] aS0 Zn (Z4 [] Zn) aC1
def aS2:DS:=Ku A1T [] [⟨X4,[],Z4 A1T Zn⟩] aS1
def aS3:DS:=Vo A2L A2T aS2 X4 (Z4 A2T X4) aC2
def aS4:DS:=Vo A3L A3T aS3 Zn (Z4 A3T Zn) aC3
def aS5:DS:=Ku A4T [] [⟨Zn,Z4 A4T Zn,aH⟩] aS4
theorem as0:Roomy aS0 0 (190536+1000000) (10+1+1):=Roomy.new (Live.new (by omega) (by omega)) (by decide) (by omega)
theorem as1:Vn [] [] aS0 Zn (Z4 [] Zn) aC1=0/\Roomy aS1 0 1000000 10/\RpOk A1L A1T :=
 Z7k (c:=aC1) (S:=aS0) RpOk.nil al1.1 rfl al1.2.1 al1.2.2.1 al1.2.2.2.1 al1.2.2.2.2 as0 (by omega)
theorem as2:K2 A1T [] [⟨X4,[],Z4 A1T Zn⟩] aS1=0/\Roomy aS2 0 800000 8/\RpOk A2L A2T :=
 Ze2 (L:=A1L) (S:=aS1) as1.2.2 [⟨X4,[],Z4 A1T Zn⟩] al2.2.2.1 (fun x hx=>by
  obtain rfl:=lF.1 hx;exact⟨(fun d hd=>by cases hd),(Gp as1.2.2 Zn).2.1⟩) al2.2.2.2 (as1.2.1.weak (lA 0) (k':=65536+800000) (m':=8+1) (by omega) (by omega)) (by omega)
theorem as3:Vn A2L A2T aS2 X4 (Z4 A2T X4) aC2=0/\Roomy aS3 0 600000 6/\RpOk A3L A3T :=
 Z7k (c:=aC2) (S:=aS2) as2.2.2 al3.1 rfl al3.2.1 al3.2.2.1 al3.2.2.2.1 al3.2.2.2.2 (as2.2.1.weak (lA 0) (k':=190536+600000) (m':=6+1+1) (by omega) (by omega)) (by omega)
theorem as4:Vn A3L A3T aS3 Zn (Z4 A3T Zn) aC3=0/\Roomy aS4 0 400000 4/\RpOk A4L A4T :=
 Z7k (c:=aC3) (S:=aS3) as3.2.2 al4.1 rfl al4.2.1 al4.2.2.1 al4.2.2.2.1 al4.2.2.2.2 (as3.2.1.weak (lA 0) (k':=190536+400000) (m':=4+1+1) (by omega) (by omega)) (by omega)
theorem aH_ok:hOk aH:=fun d hd=>by
 rcases lN.1 hd with rfl | hd
 ·exact Q0 _
 ·obtain rfl:=lF.1 hd;exact Q0 _
theorem as5:K2 A4T [] [⟨Zn,Z4 A4T Zn,aH⟩] aS4=0/\Roomy aS5 0 300000 2/\RpOk A5L A5T :=
 Ze2 (L:=A4L) (S:=aS4) as4.2.2 [⟨Zn,Z4 A4T Zn,aH⟩] al5.2.2.1 (fun x hx=>by
  obtain rfl:=lF.1 hx;exact⟨(Gp as4.2.2 Zn).2.1,aH_ok⟩) al5.2.2.2 (as4.2.1.weak (lA 0) (k':=65536+300000) (m':=2+1) (by omega) (by omega)) (by omega)
theorem Z7m{P:List PCom}{c:PCom}(h:Qg P c=false):Jq P c=[c]:=by unfold Jq;rw[h];rfl
section
variable {w0:World} {base:Nat->Prop} {r rb g by_:Nat} {W:World}
abbrev NoX:Nat->Prop:=fun _=>False
theorem noX(W:World):∀ b,NoX b->b<W.heap.size:=fun _ h=>h.elim
abbrev RpA(w0:World)(base:Nat->Prop)(r rb g by_:Nat)(L:List PCom)(T:Tab)(S:DS)(W:World):Prop:=RpM NoX w0 base r rb g by_ O1 false false L T S W
def Z4c(w0:World)(base:Nat->Prop)(r rb g:Nat)(L:List PCom)(T:Tab)(S:DS)(e:Ending)(w':World):Prop:=∃ d:Str,d.length=32/\e=.returned (.tuple #[.agg (d.map B).toArray,.int .i64 0])/\∃ by',RpA w0 base r rb g by' L T S w'
def ChgA(w0:World)(base:Nat->Prop)(r rb g:Nat)(L:List PCom)(T:Tab)(S:DS)(e:Ending)(w':World):Prop:=e=.returned (.int .i64 0)/\∃ by',RpA w0 base r rb g by' L T S w'
theorem idE0(c:PCom):(idE 0 c).length=32:=by unfold idE;rw[if_pos rfl];exact Q0 c
theorem aw1(h:RpA w0 base r rb g by_ [] [] aS0 W)(hky:∀ W,Stay base w0 W->Y9 W):Calls lD 8 #[.pointer (some ⟨r,0,none⟩),Z0 Zn,Z0 [],Z0 [104,105]] W (Z4c w0 base r rb g A1L A1T aS1):=by
 have t:Xr [] [] (Jq (Zi [] (Zb [])) aC1) 0=A1L:=by unfold Xr;rw[if_pos rfl,Z7m al1.2.1];rfl
 have t2:Xs [] (Xd Zn (Z4 [] Zn) aC1) 0=A1T:=by unfold Xs;rw[if_pos rfl];rfl
 refine (Z7j Z0p Z4b h RpOk.nil (noX W) Zn [] [104,105] al1.1 0 as0.inv (by omega) hky 0 aS1 aC1 rfl as1.1.symm rfl).mono ?_;rintro e w' ⟨he,hw⟩;rw[t,t2] at hw;exact⟨_,idE0 aC1,he,hw.ok⟩
theorem aw2(h:RpA w0 base r rb g by_ A1L A1T aS1 W)(hky:∀ W,Stay base w0 W->Y9 W):Calls lD 13 #[.pointer (some ⟨r,0,none⟩),Z0 X4,Z0 Zn] W (ChgA w0 base r rb g A2L A2T aS2):=by
 have t:Xr A1L A1T [] 0=A2L:=by unfold Xr;rw[if_pos rfl];rfl
 have t2:Xs A1T [⟨X4,[],Z4 A1T Zn⟩] 0=A2T:=by unfold Xs;rw[if_pos rfl];rfl
 refine (Zor Z0p h as1.2.2 (noX W) X4 Zn (by decide) al2.1 al2.2.1 0 as1.2.1.inv (by omega) hky [⟨X4,[],Z4 A1T Zn⟩] rfl 0 as2.1.symm aS2 rfl).mono ?_;rintro e w' ⟨he,hw⟩;rw[t,t2] at hw;exact⟨he,hw.ok⟩
theorem aw3(h:RpA w0 base r rb g by_ A2L A2T aS2 W)(hky:∀ W,Stay base w0 W->Y9 W):Calls lD 8 #[.pointer (some ⟨r,0,none⟩),Z0 X4,Z0 [],Z0 [104,105,33]] W (Z4c w0 base r rb g A3L A3T aS3):=by
 have t:Xr A2L A2T (Jq (Zi A2L (Zb A2T)) aC2) 0=A3L:=by unfold Xr;rw[if_pos rfl,Z7m al3.2.1];rfl
 have t2:Xs A2T (Xd X4 (Z4 A2T X4) aC2) 0=A3T:=by unfold Xs;rw[if_pos rfl];rfl
 refine (Z7j Z0p Z4b h as2.2.2 (noX W) X4 [] [104,105,33] al3.1 0 as2.2.1.inv (by omega) hky 0 aS3 aC2 rfl as3.1.symm rfl).mono ?_;rintro e w' ⟨he,hw⟩;rw[t,t2] at hw;exact⟨_,idE0 aC2,he,hw.ok⟩
theorem aw4(h:RpA w0 base r rb g by_ A3L A3T aS3 W)(hky:∀ W,Stay base w0 W->Y9 W):Calls lD 8 #[.pointer (some ⟨r,0,none⟩),Z0 Zn,Z0 [],Z0 [105]] W (Z4c w0 base r rb g A4L A4T aS4):=by
 have t:Xr A3L A3T (Jq (Zi A3L (Zb A3T)) aC3) 0=A4L:=by unfold Xr;rw[if_pos rfl,Z7m al4.2.1];rfl
 have t2:Xs A3T (Xd Zn (Z4 A3T Zn) aC3) 0=A4T:=by unfold Xs;rw[if_pos rfl];rfl
 refine (Z7j Z0p Z4b h as3.2.2 (noX W) Zn [] [105] al4.1 0 as3.2.1.inv (by omega) hky 0 aS4 aC3 rfl as4.1.symm rfl).mono ?_;rintro e w' ⟨he,hw⟩;rw[t,t2] at hw;exact⟨_,idE0 aC3,he,hw.ok⟩
theorem aw5(h:RpA w0 base r rb g by_ A4L A4T aS4 W)(hky:∀ W,Stay base w0 W->Y9 W):Calls lD 15 #[.pointer (some ⟨r,0,none⟩),Z0 Zn,Z0 X4] W (ChgA w0 base r rb g A5L A5T aS5):=by
 have t:Xr A4L A4T [] 0=A5L:=by unfold Xr;rw[if_pos rfl];rfl
 have t2:Xs A4T [⟨Zn,Z4 A4T Zn,aH⟩] 0=A5T:=by unfold Xs;rw[if_pos rfl];rfl
 refine (Zou Z0p Z4b h as4.2.2 (noX W) Zn X4 (by decide) al5.1 al5.2.1 (by decide) (by rw[Ze3];decide) 0 as4.2.1.inv (by omega) hky [⟨Zn,Z4 A4T Zn,aH⟩] (by rw[Ze3]) 0 as5.1.symm aS5 rfl).mono ?_;rintro e w' ⟨he,hw⟩;rw[t,t2] at hw;exact⟨he,hw.ok⟩
theorem aw6(h:RpA w0 base r rb g by_ A5L A5T aS5 W)(hky:∀ W,Stay base w0 W->Y9 W):Calls lD 4 #[.pointer (some ⟨r,0,none⟩),Z0 Zn] W fun e w'=>e=.returned (.tuple #[Z0 [105,33],.int .i64 0])/\RpA w0 base r rb g by_ A5L A5T aS5 w':=by
 refine (Zn7 Z0p h as5.2.2 Zn al6.1 (hky _ h.bel)).mono ?_;rintro e w' ⟨he,hb⟩;rw[al6.2] at he;exact⟨he,h.below hb⟩
end
end Go.Proofs.YtfdimggmljkkbaaGreatDoor
end
section
set_option maxRecDepth 100000
set_option maxHeartbeats 16000000
open Go.Lib renaming hid → iD
open Go.Proofs.Tryz
namespace Go.Proofs.YtfdimggmljkkbaaGreatDoor
open Go.RowKit
theorem alive15_any(w:World)(hK:Y9 w):Calls lD 19 #[] w fun e w'=>e=.returned (.bool true)/\Below w.heap.size w w':=by
  have hky:Hid (∀ W,Stay (w.heap.size<=·) w W->Y9 W):=iD (fun W hs=>keys_below hK (hs.below (lA _)));have hnw:=Zox O1 (by decide) w;have hm1:Z0 O1=.string ⟨#[97,110,110]⟩:=rfl;rw[hm1] at hnw;clear hK hm1;have aw1:=@aw1 w (w.heap.size<=·);have aw2:=@aw2 w (w.heap.size<=·);have aw3:=@aw3 w (w.heap.size<=·);have aw4:=@aw4 w (w.heap.size<=·);have aw5:=@aw5 w (w.heap.size<=·);have aw6:=@aw6 w (w.heap.size<=·);have k1:Z0 Zn=.string ⟨#[109,97,105,110]⟩:=rfl;have k2:Z0 X4=.string ⟨#[100,101,118]⟩:=rfl;have k3:Z0 []=.string ⟨#[]⟩:=rfl;have k4:Z0 [104,105]=.string ⟨#[104,105]⟩:=rfl;have k5:Z0 [104,105,33]=.string ⟨#[104,105,33]⟩:=rfl;have k6:Z0 [105]=.string ⟨#[105]⟩:=rfl;have k7:Z0 [105,33]=.string ⟨#[105,33]⟩:=rfl;rw[k1,k3,k4] at aw1;rw[k1,k2] at aw2;rw[k2,k3,k5] at aw3;rw[k1,k3,k6] at aw4;rw[k1,k2] at aw5;rw[k1,k7] at aw6;clear k1 k2 k3 k4 k5 k6 k7;unfold Z4c at aw1 aw3 aw4;unfold ChgA at aw2 aw5;go_enter func19,ntmps19;go_wp2_with fail;refine hnw.mono ?_;rintro e w1 ⟨r,rb,g,by0,rfl,h1⟩;replace h1:Hid (RpA w (w.heap.size<=·) r rb g by0 [] [] aS0 w1):=iD h1;go_wp2_with fail;refine (aw1 h1.out hky.out).mono ?_;rintro e w2 ⟨d1,hd1,rfl,by1,g1⟩;replace g1:=iD g1;go_wp2_with (first
    | (refine Zo rfl 47 (.tmp 3) (.tmp 22) rfl w2.heap.size (d1.map B) rfl rfl 47 Z3 (Blk.new_at rfl) (by simp[hd1,Z3]) (Za hd1) (Yk _) ?_
       generalize hw1:lK _ w2.heap.size (d1.map B).toArray=v2;have hb1:Below w2.heap.size w2 v2:=by
         rw[<-hw1];exact below_setRow ((lL w2.heap.size w2).alloc (lA _) (.cells Z3.toArray 47)) (lA _) (d1.map B).toArray
       have h2:=iD (g1.out.below hb1);clear hw1 hb1;go_frame)
    | fail)
  refine (aw2 h2.out hky.out).mono ?_;rintro e w3 ⟨rfl,by2,h3⟩;replace h3:=iD h3;go_wp2_with fail;refine (aw3 h3.out hky.out).mono ?_;rintro e w4 ⟨d3,hd3,rfl,by3,g3⟩;replace g3:=iD g3;go_wp2_with (first
    | (refine Zo rfl 47 (.tmp 6) (.tmp 29) rfl w4.heap.size (d3.map B) rfl rfl 47 Z3 (Blk.new_at rfl) (by simp[hd3,Z3]) (Za hd3) (Yk _) ?_
       generalize hw3:lK _ w4.heap.size (d3.map B).toArray=v4;have hb3:Below w4.heap.size w4 v4:=by
         rw[<-hw3];exact below_setRow ((lL w4.heap.size w4).alloc (lA _) (.cells Z3.toArray 47)) (lA _) (d3.map B).toArray
       have h4:=iD (g3.out.below hb3);clear hw3 hb3;go_frame)
    | fail)
  refine (aw4 h4.out hky.out).mono ?_;rintro e w5 ⟨d4,hd4,rfl,by4,g4⟩;replace g4:=iD g4;go_wp2_with (first
    | (refine Zo rfl 47 (.tmp 8) (.tmp 34) rfl w5.heap.size (d4.map B) rfl rfl 47 Z3 (Blk.new_at rfl) (by simp[hd4,Z3]) (Za hd4) (Yk _) ?_
       generalize hw4:lK _ w5.heap.size (d4.map B).toArray=v5;have hb4:Below w5.heap.size w5 v5:=by
         rw[<-hw4];exact below_setRow ((lL w5.heap.size w5).alloc (lA _) (.cells Z3.toArray 47)) (lA _) (d4.map B).toArray
       have h5:=iD (g4.out.below hb4);clear hw4 hb4;go_frame)
    | fail)
  refine (aw5 h5.out hky.out).mono ?_;rintro e w6 ⟨rfl,by5,h6⟩;replace h6:=iD h6;go_wp2_with fail;refine (aw6 h6.out hky.out).mono ?_;rintro e w7 ⟨rfl,h7⟩;have hbf:Below w.heap.size w w7:=h7.bel.below (lA _);clear h7 h6 h5 h4 h3 h2 h1 aw1 aw2 aw3 aw4 aw5 aw6;replace hbf:=iD hbf;go_wp2_with fail;go_returns;exact⟨rfl,hbf.out⟩
end Go.Proofs.YtfdimggmljkkbaaGreatDoor
end
