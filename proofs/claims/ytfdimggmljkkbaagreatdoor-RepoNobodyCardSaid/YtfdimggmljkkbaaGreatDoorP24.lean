import Derived.Test.YtfdimggmljkkbaaGreatDoorP23
open ByteArray renaming ext → nD
open Classical renaming byContradiction → lI
open Go renaming wpQuiet_nil → lG
open Go.Instr renaming makeSlice → lV
open Go.Obj renaming cells → lJ
open Go.Proofs.Tryz renaming prog → lB
open Go.RowKit.Below renaming refl → lH
open Go.Value renaming oneCell' → l9
open Go.World renaming alloc → lC, setCell → lO, drewN → lW
open Int renaming natCast_mul → lN
open List renaming drop_eq_nil_of_le → lD, length_cons → lE, drop_eq_getElem_cons → lF, replicate → lK, set_append_right → lL, getElem?_append_right → lM, length_drop → lP, eq_nil_or_concat → lR, concat_eq_append → lS, getElem?_eq_getElem → lT, take_succ_cons → lX, take_zero → lY, drop_succ_cons → lZ, drop_zero → l4, length_append → l6, nil_append → l7, append_assoc → l8, length_eq_zero_iff → nA, mem_append → nB
open Nat renaming le_refl → lA, add_sub_cancel_left → lQ, sub_self → lU
open Option renaming mem_toList → nC
open UInt8 renaming toNat_inj → l5
namespace Go.Proofs.YtfdimggmljkkbaaGreatDoor
section
open Go.RowKit
def Zc9(x:UInt8)(f:Str->Nat)(n:Nat):Str->Nat
 | []=>n
 | y :: b=>if x=y then f b else 1+min (f (y :: b)) (Zc9 x f n b)
def cst:Str->Str->Nat
 | [],b=>b.length
 | x :: a,b=>Zc9 x (cst a) (a.length+1) b
theorem Zca(b:Str):cst [] b=b.length:=rfl
theorem Zcb(a:Str):cst a []=a.length:=by cases a <;> rfl
theorem Zcc(x y:UInt8)(a b:Str):cst (x :: a) (y :: b)=if x=y then cst a b else 1+min (cst a (y :: b)) (cst (x :: a) b):=rfl
theorem Z21:∀ (a b:Str),cst a b<=a.length+b.length
 | [],b=>by rw[Zca];simp
 | x :: a,[]=>by rw[Zcb];simp
 | x :: a,y :: b=>by
  rw[Zcc];have h1:=Z21 a b;have h2:=Z21 a (y :: b);simp only[lE] at h2 ⊢;split <;> omega
structure PEd where
 kind:Int
 n:Nat
 text:Str
deriving DecidableEq
def Xc(l:List PEd)(kind:Int)(s:Str):List PEd :=
 match l.getLast? with
 | some e=>if e.kind=kind then l.dropLast++[if kind=3 then { e with text:=e.text++s } else { e with n:=e.n+1 }] else l++[if kind=3 then ⟨kind,0,s⟩ else ⟨kind,1,[]⟩]
 | none=>[if kind=3 then ⟨kind,0,s⟩ else ⟨kind,1,[]⟩]
def X3:Nat->Str->Str->List (Int × Str)
 | 0,_,_=>[]
 | _+1,[],[]=>[]
 | f+1,_ :: a,[]=>(2,[]) :: X3 f a []
 | f+1,[],y :: b=>(3,[y]) :: X3 f [] b
 | f+1,x :: a,y :: b=>if x=y then (1,[]) :: X3 f a b else if cst a (y :: b)<=cst (x :: a) b then (2,[]) :: X3 f a (y :: b) else (3,[y]) :: X3 f (x :: a) b
def Qe(l:List PEd)(st:List (Int × Str)):List PEd:=st.foldl (fun l s=>Xc l s.1 s.2) l
def Kt(a b:Str):List PEd:=Qe [] (X3 (a.length+b.length) a b)
end
section
set_option maxRecDepth 100000
set_option maxHeartbeats 4000000
open Go.Lib renaming hid → iD
open Go.Proofs.Tryz
open Go.RowKit
def Uw(g wd n:Nat):List Value:=(List.range n).map fun i=>.slice (some ⟨g,i*wd,none⟩) wd wd
theorem Zma(g wd n i:Nat)(h:i<n):(Uw g wd n)[i]?=some (.slice (some ⟨g,i*wd,none⟩) wd wd):=by simp[Uw,h]
def Xx(gA gR N wd:Nat)(a b:Str)(p q:Nat)(w:World):Prop :=
 Blk w gR 147 (Uw gA wd N)/\∃ cs:List Value,Blk w gA 146 cs/\cs.length=N*wd /\
  ∀ i j,i<N->j<wd->(p<=i ∨ (i+1=p/\q<=j))->cs[i*wd+j]?=some (.int .i16 (cst (a.drop i) (b.drop j):Nat))
theorem Z3w{n wd i j:Nat}(hi:i<n)(hj:j<wd):i*wd+j<n*wd:=by
 have : (i+1)*wd<=n*wd:=Nat.mul_le_mul_right wd (by omega);rw[Nat.add_mul] at this;omega
theorem Zmb{wd i j i' j':Nat}(hj:j<wd)(hj':j'<wd)(h:i*wd+j=i'*wd+j'):i=i'/\j=j':=by
 have h1:i=i':=by
  apply lI;intro hne;rcases Nat.lt_or_gt_of_ne hne with hl | hl
  ·have:=Z3w (n:=i') hl hj;omega
  ·have:=Z3w (n:=i) hl hj';omega
 subst h1;exact⟨rfl,by omega⟩
section
variable {gA gR N wd p q:Nat} {a b:Str} {w:World}
theorem Xx.row(h:Xx gA gR N wd a b p q w)(i:Nat)(hi:i<N):w.cell? ⟨gR,i,none⟩=some (.slice (some ⟨gA,i*wd,none⟩) wd wd):=(h.1.cell i).trans (Zma _ _ _ _ hi)
theorem Xx.cell(h:Xx gA gR N wd a b p q w)(i j:Nat)(hi:i<N)(hj:j<wd)(hd:p<=i ∨ (i+1=p/\q<=j)):w.cell? ⟨gA,i*wd+j,none⟩=some (.int .i16 (cst (a.drop i) (b.drop j):Nat)):=by
 obtain⟨_,cs,hB,_,hc⟩:=h;exact (hB.cell _).trans (hc i j hi hj hd)
theorem Xx.spot(h:Xx gA gR N wd a b p q w)(i j:Nat)(hi:i<N)(hj:j<wd):(∃ v,w.cell? ⟨gA,i*wd+j,none⟩=some v)/\w.frozen? ⟨gA,i*wd+j,none⟩=false:=by
 obtain⟨_,cs,hB,hl,_⟩:=h;have:=Z3w hi hj;exact⟨⟨cs[i*wd+j]'(by omega),(hB.cell _).trans (lT (by omega))⟩,hB.frozen _⟩
theorem Xx.put(h:Xx gA gR N wd a b p (q+1) w)(hg:gR ≠ gA)(i:Nat)(hip:i+1=p)(hi:i<N)(hq:q<wd)(v:Int)(hv:v=(cst (a.drop i) (b.drop q):Nat)):Xx gA gR N wd a b p q (w.setCell ⟨gA,i*wd+q,none⟩ (.int .i16 v)):=by
 obtain⟨h1,cs,hB,hl,hc⟩:=h;subst hv;refine⟨h1.far hg _,_,hB.set_ _ _,by simp[hl],fun i' j' hi' hj' hd=>?_⟩;by_cases he:i*wd+q=i'*wd+j'
 ·obtain⟨rfl,rfl⟩:=Zmb hq hj' he;exact List.getElem?_set_self (by rw[hl];exact Z3w hi hq)
 ·rw[List.getElem?_set_ne he];refine hc i' j' hi' hj' ?_;rcases hd with h | ⟨h,h2⟩
  ·exact .inl h
  ·refine .inr ⟨h,?_⟩;apply lI;intro hn;obtain rfl:q=j':=by omega
   obtain rfl:i=i':=by omega
   exact he rfl
theorem Xx.drewN(h:Xx gA gR N wd a b p q w)(n:Nat):Xx gA gR N wd a b p q (w.drewN n):=by
 obtain⟨h1,cs,hB,r⟩:=h;exact⟨h1.drewN n,cs,hB.drewN n,r⟩
theorem below_drewN{B:Nat}{w w':World}(h:Below B w w')(n:Nat):Below B w (w'.drewN n):=⟨h.os,h.tape,h.output,h.size,h.block⟩
theorem Xx.next(h:Xx gA gR N wd a b (p+1) 0 w):Xx gA gR N wd a b p wd w:=by
 obtain⟨h1,cs,hB,hl,hc⟩:=h;exact⟨h1,cs,hB,hl,fun i j hi hj hd=>hc i j hi hj (by omega)⟩
end
def Ow(g wd N k:Nat):List Value:=Uw g wd k++lK (N - k) Z2
theorem Zmc{g wd N k:Nat}(h:k<N):(Ow g wd N k).set k (.slice (some ⟨g,k*wd,none⟩) wd wd)=Ow g wd N (k+1):=by
 obtain⟨d,hd⟩:∃ d,N - k=d+1:=⟨N - k - 1,by omega⟩;unfold Ow;rw[hd,show N - (k+1)=d by omega,List.replicate_succ,lL _ _ (by simp[Uw])];simp[Uw,List.range_succ]
theorem Zmd{g wd N k:Nat}(h:k<N):(Ow g wd N k)[k]?=some Z2:=by
 have e:(Uw g wd k).length=k:=by simp[Uw]
 unfold Ow;rw[lM (by omega),e,lU,List.getElem?_replicate,if_pos (by omega)]
theorem Zme(a b:Str)(ha:a.length<=1000)(hb:b.length<=1000)(w:World) :
  Calls lB 82 #[Z0 a,Z0 b] w fun e w'=>∃ gA gR,e=.returned (.slice (some ⟨gR,0,none⟩) (a.length+1) (a.length+1))/\w.heap.size<=gA/\w.heap.size<=gR/\Xx gA gR (a.length+1) (b.length+1) a b 0 (b.length+1) w'/\Below w.heap.size w w':=by
 have ea:(⟨a.toArray⟩:ByteArray).size=a.length:=Ui a;have eb:(⟨b.toArray⟩:ByteArray).size=b.length:=Ui b;obtain⟨n,hn⟩:∃ n,n=a.length:=⟨_,rfl⟩;obtain⟨m,hm⟩:∃ m,m=b.length:=⟨_,rfl⟩;obtain⟨N,hN⟩:∃ N,N=n+1:=⟨_,rfl⟩;obtain⟨wd,hwd⟩:∃ wd,wd=m+1:=⟨_,rfl⟩;obtain⟨T,hT⟩:∃ T,T=N*wd:=⟨_,rfl⟩;have hNl:Hid (N<=1001):=iD (by omega);have hwl:Hid (wd<=1001):=iD (by omega);have hTl:T<=1002001:=by rw[hT];exact Nat.mul_le_mul (show N<=1001 by omega) (show wd<=1001 by omega)
 rw[<-hn] at ea;rw[<-hm] at eb;have z1:((n:Int)+1)=(N:Int):=by omega
 have z2:((m:Int)+1)=(wd:Int):=by omega
 have z3:((N:Int)*(wd:Int))=(T:Int):=by rw[hT];exact (lN N wd).symm
 have mk1:∀ W:World,(lV 147 (.int .i64 (T:Int)) (.int .i64 (T:Int))).run lB W=.ok (.slice (some ⟨W.heap.size,0,none⟩) T T) (W.alloc (.cells (madeCells #[.int .i16 0] T) 146)):=fun W=>by
  have h:=run_make_row' 147 146 (.int .i16 0) 2 underlying147 (by kernel_rfl) rfl .i64 .i64 T (by omega) (by omega) W;simpa using h
 have mk2:∀ W:World,(lV 141 (.int .i64 (N:Int)) (.int .i64 (N:Int))).run lB W=.ok (.slice (some ⟨W.heap.size,0,none⟩) N N) (W.alloc (.cells (madeCells #[Z2] N) 147)):=fun W=>by
  have h:=run_make_row' 141 147 Z2 24 underlying141 (by kernel_rfl) rfl .i64 .i64 N (by omega) (by omega) W;simpa using h
 have w64:∀ x:Int,0<=x->x<=4611686018427387904->wrap64 x=x:=fun x h1 h2=>by unfold wrap64;omega
 have a1:wrap64 (N:Int)=(N:Int):=w64 _ (by omega) (by omega);have a2:wrap64 (wd:Int)=(wd:Int):=w64 _ (by omega) (by omega);have a3:wrap64 ((N:Int)*(wd:Int))=(T:Int):=by rw[z3];exact w64 _ (by omega) (by omega)
 unfold Z0;replace hT:=iD hT;replace hN:=iD hN;replace hwd:=iD hwd;replace hn:=iD hn;replace hm:=iD hm;replace w64:=iD w64;clear z3;go_enter func82,ntmps82;go_upto_region 5 with fail;generalize hW1:lC (lC w _) (lJ _ 147)=W1;obtain⟨gA,hgA⟩:∃ gA,gA=w.heap.size:=⟨_,rfl⟩;have hb1:Below w.heap.size w W1:=by rw[<-hW1];go_grown
 have hR1:Blk W1 (w.heap.size+1) 147 (lK N Z2):=by
  rw[<-hW1];rw[show madeCells #[Z2] N=(lK N Z2).toArray by rw[<-toList_madeCells_one]];exact Blk.new_at (by simp)
 have hA1:∃ cs:List Value,cs.length=T/\Blk W1 w.heap.size 146 cs:=by
  rw[<-hW1];exact⟨_,by simp[size_madeCells],(Blk.new_at (cs:=(madeCells #[.int .i16 0] T).toList) rfl).alloc _⟩
 rw[<-hgA] at hR1 hA1 ⊢;clear hW1 mk1 mk2;replace hgA:=iD hgA;replace hb1:=iD hb1;replace hR1:=iD hR1;replace hA1:=iD hA1;simp only[a1,a2,a3];clear a1 a2 a3;go_loopw [26] (fun i wr=>∃ k:Nat,k<=N/\i=.int .i64 k/\Below w.heap.size w wr/\Blk wr (gA+1) 147 (Ow gA wd N k)/\∃ cs:List Value,cs.length=T/\Blk wr gA 146 cs) (fun i _=>N - (intOf i).toNat)
 case atStart=>exact⟨0,by omega,rfl,hb1.out,by simpa[Ow,Uw] using hR1.out,hA1.out⟩
 case round =>
 obtain⟨k,hk,rfl,hb2,hR2,hA2⟩:=hrel;clear hb1 hR1 hA1;by_cases hkN:k<N
 ·obtain⟨o,ho⟩:∃ o,o=k*wd:=⟨_,rfl⟩;obtain⟨o2,ho2⟩:∃ o2,o2=(k+1)*wd:=⟨_,rfl⟩;have hoo:o2=o+wd:=by rw[ho2,ho,Nat.add_mul,Nat.one_mul]
  have hoT:o2<=T:=by rw[ho2,hT.out];exact Nat.mul_le_mul_right wd (by omega)
  have s1:∀ W:World,(Instr.sliceAt 147 (.slice (some ⟨gA,0,none⟩) T T) (some (.int .i64 (o:Int))) (some (.int .i64 (o2:Int))) (some (.int .i64 (o2:Int)))).run lB W=.ok (.slice (some ⟨gA,o,none⟩) wd wd) W:=fun W=>by
   have h:=Z9o (P:=lB) W 147 146 1 underlying147 (by kernel_rfl) (some ⟨gA,0,none⟩) T T o o2 o2 (by omega) (by omega) hoT;have ec:cutA (some (⟨gA,0,none⟩:Addr)) o2 o 1=some ⟨gA,o,none⟩:=by
    unfold cutA;rw[if_neg (by have:=hwd.out;omega)];simp[Xj]
   rw[ec,show o2 - o=wd by omega] at h;exact h
  have i1:(0:Int)<=(k:Int):=by omega
  have i2:(k:Int)<(N:Int):=by omega
  have c1:wr.cell? ⟨gA+1,k,none⟩=some Z2:=(hR2.cell k).trans (Zmd hkN);have f1:=hR2.frozen k;have hR3:=hR2.set_ k (.slice (some ⟨gA,o,none⟩) wd wd);rw[ho,Zmc hkN,<-ho] at hR3;have hb3:Below w.heap.size w (wr.setCell ⟨gA+1,k,none⟩ (.slice (some ⟨gA,o,none⟩) wd wd)):=hb2.setCell (by show w.heap.size<=gA+1;rw[hgA.out];omega) _;have hA3:Hid (∃ cs:List Value,cs.length=T/\Blk (wr.setCell ⟨gA+1,k,none⟩ (.slice (some ⟨gA,o,none⟩) wd wd)) gA 146 cs):=by
   obtain⟨cs,hl,hB⟩:=hA2;exact iD ⟨cs,hl,hB.far (p:=⟨gA+1,k,none⟩) (by show gA ≠ gA+1;omega) _⟩
  replace hR3:=iD hR3;replace hb3:=iD hb3;clear hR2 hb2;have hl1:(0:Int)<=(o:Int)/\(o:Int)<=4611686018427387904:=by omega
  have hl3:(0:Int)<=(o2:Int)/\(o2:Int)<=4611686018427387904:=by omega
  have e1:(k:Int)*(wd:Int)=(o:Int):=by rw[ho];exact (lN k wd).symm
  have e3:((k:Int)+1)*(wd:Int)=(o2:Int):=by rw[ho2,show ((k:Int)+1)=((k+1:Nat):Int) from rfl];exact (lN (k+1) wd).symm
  replace ho:=iD ho;replace ho2:=iD ho2;have q1:wrap64 ((k:Int)*(wd:Int))=(o:Int):=by rw[e1];exact w64.out _ hl1.1 hl1.2
  have q2:wrap64 (((k:Int)+1)*(wd:Int))=(o2:Int):=by rw[e3];exact w64.out _ hl3.1 hl3.2
  have hl0:(0:Int)<=(k:Int)+1/\(k:Int)+1<=4611686018427387904:=by have:=hN.out;have:=hn.out;omega
  have q0:wrap64 ((k:Int)+1)=(k:Int)+1:=w64.out _ hl0.1 hl0.2;clear e1 e3 hl0 hl1 hl3;replace hoo:=iD hoo;replace hoT:=iD hoT;go_upto_region 8 with fail;clear s1 q1 q2 hA2;generalize lO wr _ _=w3 at hA3 hR3 hb3 ⊢;go_wp2_with fail;simp only[q0];clear q0;go_roundw
  case rel=>exact⟨k+1,by omega,by go_num,hb3.out,hR3.out,hA3.out⟩
  case measure=>simp[intOf];omega
 ·obtain rfl:k=N:=by omega
  replace hNl:=hNl.out;replace hwl:=hwl.out;obtain⟨cs0,hcl0,hA2⟩:=hA2;have hC:Hid (Xx gA (gA+1) k wd a b k wd wr):=iD ⟨by simpa[Ow] using hR2,cs0,hA2,by rw[hcl0,hT.out],fun i j hi hj hd=>by omega⟩;replace hb2:=iD hb2;clear hR2 hA2 hcl0;go_upto_region 10 with fail;go_loopw [9] (fun i wx=>∃ p:Nat,p<=k/\i=.int .i64 ((p:Int) - 1)/\Below w.heap.size w wx/\Xx gA (gA+1) k wd a b p wd wx) (fun i _=>(intOf i+1).toNat)
  case atStart=>exact⟨k,by omega,by rw[show (k:Int) - 1=(n:Int) by omega],hb2.out,hC.out⟩
  case round =>
  obtain⟨p,hp,rfl,hb3,hC3⟩:=hrel;clear hb2 hC;by_cases hp0:p=0
  ·subst hp0;replace hC3:=iD hC3;replace hb3:=iD hb3;have d0:decide ((0:Int)<=((0:Nat):Int) - 1)=false:=by decide
   go_wp2_with fail;go_returns;rw[<-hm.out,<-hn.out];have e1:wd=m+1:=hwd.out;have e2:k=n+1:=hN.out;rw[<-e1,<-e2];exact⟨gA,gA+1,rfl,by rw[hgA.out];exact lA _,by rw[hgA.out];omega,hC3.out,hb3.out⟩
  ·obtain⟨I,rfl⟩:∃ I,p=I+1:=⟨p - 1,by omega⟩;rw[show ((I+1:Nat):Int) - 1=(I:Int) by omega];have i1:(0:Int)<=(I:Int):=by omega
   replace hC3:=iD hC3;replace hb3:=iD hb3;go_upto_region 13 with fail;go_loopw [10] (fun j wx=>∃ q:Nat,q<=wd/\j=.int .i64 ((q:Int) - 1)/\Below w.heap.size w wx/\Xx gA (gA+1) k wd a b (I+1) q wx) (fun j _=>(intOf j+1).toNat)
   case atStart=>exact⟨wd,by omega,by rw[show (wd:Int) - 1=(m:Int) by omega],hb3.out,hC3.out⟩
   case round =>
   obtain⟨q,hq,rfl,hb4,hC4⟩:=hrel;clear hb3 hC3;by_cases hq0:q=0
   ·subst hq0;have hC5:=iD hC4.next;replace hb4:=iD hb4;clear hC4;go_wp2_with fail;go_roundw
    case rel=>exact⟨I,by omega,by go_num,hb4.out,hC5.out⟩
    case measure=>simp[intOf]
   ·obtain⟨J,rfl⟩:∃ J,q=J+1:=⟨q - 1,by omega⟩;rw[show ((J+1:Nat):Int) - 1=(J:Int) by omega];obtain⟨⟨v0,cv⟩,fv⟩:=hC4.spot I J (by omega) (by omega);have r0:=hC4.row I (by omega);have hput:=iD (fun v hv=>hC4.put (q:=J) (by omega) I rfl (by omega) (by omega) v hv);have hput2:=iD (fun x v hv=>(hC4.drewN x).put (q:=J) (by omega) I rfl (by omega) (by omega) v hv);have hbp2:Hid (∀ x v,Below w.heap.size w (lO (lW _ x) ⟨gA,I*wd+J,none⟩ v)):=iD (fun x v=>(below_drewN hb4 x).setCell (by show w.heap.size<=gA;rw[hgA.out];exact lA _) v);have hbp:Hid (∀ v,Below w.heap.size w (lO _ ⟨gA,I*wd+J,none⟩ v)):=iD (fun v=>hb4.setCell (by show w.heap.size<=gA;rw[hgA.out];exact lA _) v);have hcc:=iD (fun i j hi hj hd=>hC4.cell i j hi hj hd);have hrr:=iD (fun i hi=>hC4.row i hi);obtain⟨o,ho⟩:∃ o,o=I*wd:=⟨_,rfl⟩;rw[<-ho] at cv fv r0 hput hbp hput2 hbp2;replace ho:=iD ho;have i2:(0:Int)<=(J:Int):=by omega
    have i3:(I:Int)<(k:Int):=by omega
    have i4:(J:Int)<(wd:Int):=by omega
    clear hC4 hb4;by_cases hIn:I=n
    ·subst hIn;have hJm:J<=m:=by omega
     go_wp2_with fail;refine⟨⟨J,by omega,rfl,hbp.out _,hput.out _ ?_⟩,?_⟩
     ·rw[lD (by rw[<-hn.out];exact lA _),Zca,lP,<-hm.out];omega
     ·simp[intOf]
    ·have hIl:I<n:=by omega
     have dI:((I:Int) == (n:Int))=false:=by rw[beq_eq_false_iff_ne];omega
     by_cases hJe:J=m
     ·subst hJe;go_wp2_with fail;refine⟨⟨J,by omega,rfl,hbp.out _,hput.out _ ?_⟩,?_⟩
      ·rw[lD (show b.length<=J by rw[<-hm.out];exact lA _),Zcb,lP,<-hn.out];omega
      ·simp[intOf]
     ·have hJl:J<m:=by omega
      have dJ:((J:Int) == (m:Int))=false:=by rw[beq_eq_false_iff_ne];omega
      have hIa:I<a.length:=by rw[<-hn.out];exact hIl
      have hJb:J<b.length:=by rw[<-hm.out];exact hJl
      have ea':a.drop I=a[I] :: a.drop (I+1):=lF hIa;have eb':b.drop J=b[J] :: b.drop (J+1):=lF hJb;rw[ea',eb',Zcc] at hput hput2;replace ea':=iD ea';replace eb':=iD eb';have i5:(I:Int)<(n:Int):=by omega
      have i6:(J:Int)<(m:Int):=by omega
      have i7:(I:Int)<(a.length:Int):=by omega
      have i8:(J:Int)<(b.length:Int):=by omega
      have r1:=hrr.out (I+1) (by omega);have c11:=hcc.out (I+1) (J+1) (by omega) (by omega) (.inl (by omega));have c10:=hcc.out (I+1) J (by omega) (by omega) (.inl (by omega));have c01:=hcc.out I (J+1) (by omega) (by omega) (.inr ⟨rfl,by omega⟩);rw[<-ho.out] at c01;obtain⟨o1,ho1⟩:∃ o1,o1=(I+1)*wd:=⟨_,rfl⟩;rw[<-ho1] at r1 c11 c10;replace ho1:=iD ho1;rw[eb'.out] at c10;rw[ea'.out] at c01;have l11:=Z21 (a.drop (I+1)) (b.drop (J+1));have l10:=Z21 (a.drop (I+1)) (b[J] :: b.drop (J+1));have l01:=Z21 (a[I] :: a.drop (I+1)) (b.drop (J+1));simp only[lP,lE] at l11 l10 l01;have l11':cst (a.drop (I+1)) (b.drop (J+1))<=2002:=by omega
      have l10':cst (a.drop (I+1)) (b[J] :: b.drop (J+1))<=2002:=by omega
      have l01':cst (a[I] :: a.drop (I+1)) (b.drop (J+1))<=2002:=by omega
      clear l11 l10 l01;generalize cst (a.drop (I+1)) (b.drop (J+1))=z11 at c11 hput hput2 l11';generalize cst (a.drop (I+1)) (b[J] :: b.drop (J+1))=z10 at c10 hput hput2 l10';generalize cst (a[I] :: a.drop (I+1)) (b.drop (J+1))=z01 at c01 hput hput2 l01';have j1:(0:Int)<=(I:Int)+1:=by omega
      have j2:(I:Int)+1<(k:Int):=by omega
      have j3:(0:Int)<=(J:Int)+1:=by omega
      have j4:(J:Int)+1<(wd:Int):=by omega
      clear hcc hrr;by_cases hx:a[I]=b[J]
      ·rw[if_pos hx] at hput hput2;have dX:∀ h1 h2,((((⟨a.toArray⟩:ByteArray)[I]'h1).toNat:Int) == (((⟨b.toArray⟩:ByteArray)[J]'h2).toNat:Int))=true:=fun _ _=>by
        show (((a[I]).toNat:Int) == ((b[J]).toNat:Int))=true;rw[hx];simp
       replace hx:=iD hx;go_upto_region 20 with fail;go_quiet (fail);go_upto_region 21 with fail;refine Ye 15 (by kernel_rfl) (by kernel_rfl) ?_;simp only[lX,lY,lZ,l4];repeat (first | go_big_quiet_step (fail))
       refine lG ?_;rintro _ ⟨nr,rfl⟩;go_wp2_with fail;refine⟨⟨J,by omega,rfl,hbp2.out _ _,hput2.out _ _ rfl⟩,?_⟩;simp[intOf]
      ·rw[if_neg hx] at hput hput2;have dX:∀ h1 h2,((((⟨a.toArray⟩:ByteArray)[I]'h1).toNat:Int) == (((⟨b.toArray⟩:ByteArray)[J]'h2).toNat:Int))=false:=fun _ _=>by
        show (((a[I]).toNat:Int) == ((b[J]).toNat:Int))=false;rw[beq_eq_false_iff_ne];intro h;exact hx (l5.1 (by omega))
       replace hx:=iD hx;go_upto_region 20 with fail;go_quiet (fail);go_upto_region 15 with fail;refine Ye 24 (by kernel_rfl) (by kernel_rfl) ?_;simp only[lX,lY,lZ,l4];repeat (first | go_big_quiet_step (fail))
       refine lG ?_;rintro _ ⟨nr,rfl⟩;go_wp2_with fail;refine⟨⟨J,by omega,rfl,hbp2.out _ _,hput2.out _ _ (by omega)⟩,?_⟩;simp[intOf]
end
section
set_option maxRecDepth 100000
set_option maxHeartbeats 4000000
open Go.Lib renaming hid → iD
open Go.Proofs.Tryz
open Go.RowKit
def Je(l:List PEd):List Value:=l.flatMap fun e=>Z08 e.kind e.n e.text
theorem Ox(l m:List PEd):Je (l++m)=Je l++Je m:=by simp[Je]
theorem Ux:∀ l:List PEd,(Je l).length=l.length*3
 | []=>rfl
 | e :: l=>by
  have:=Ux l;simp only[Je,List.flatMap_cons,l6,lE] at this ⊢;rw[this];simp[Z08];omega
def K0(e:PEd)(s:Str):PEd:=if e.kind=3 then { e with text:=e.text++s } else { e with n:=e.n+1 }
structure EdSt (W0 W:World) (lb:Nat) (l:List PEd):Prop where
 below:Below lb W0 W
 low:lb<W.heap.size
 row:∃ V,Blk W lb 40 [V]/\W.ownsRow (lb+1) 144 3 V l.length (Je l)
theorem Zcd(m:List PEd)(e:PEd)(s:Str):Xc (m++[e]) e.kind s=m++[K0 e s]:=by
 simp[Xc,K0]
theorem Zce(k:Int)(s:Str):Xc [] k s=[]++[K0 ⟨k,0,[]⟩ s]:=by
 simp only[Xc,K0,List.getLast?_nil,l7]
theorem Zcf(m:List PEd)(e:PEd)(k:Int)(s:Str)(h:e.kind ≠ k):Xc (m++[e]) k s=(m++[e])++[K0 ⟨k,0,[]⟩ s]:=by
 simp only[Xc,K0,List.getLast?_append,List.getLast?_singleton,Option.some_or,if_neg h];split <;> simp_all
theorem Z6z{w:World}{base:Nat}{e:TypeId}{k n:Nat}{v:Value}{xs:List Value}(h:w.ownsRow base e k v n xs)(hn:0<n):∃ g cap rest,v=.slice (some ⟨g,0,none⟩) n cap/\base<=g/\n<=cap/\Blk w g e (xs++rest):=by
 rcases h.2 with ⟨_,h0⟩ | ⟨g,cap,cur,h2,h3,h4,h5,h6,h7,h8⟩
 ·omega
 ·refine⟨g,cap,cur.toList.drop (n*k),h2,h3,h5,?_⟩;rw[<-h8,List.take_append_drop];exact h4
theorem Zcg{w:World}{base n k g:Nat}{e t:TypeId}{v:Value}{xs cs:List Value}(h:w.ownsRow base e k v n xs)(hB:Blk w g t cs)(hne:t ≠ e):some g ≠ v.ownBlock:=fun he=>by
 obtain⟨cs',hB'⟩:=Z37 h g he.symm;exact hne (hB.unique hB')
theorem Zch{w:World}{b eb n cap i:Nat}{e:TypeId}{k:Nat}{xs:List Value}(h:w.ownsRow b e k (.slice (some ⟨eb,0,none⟩) n cap) n xs)(v:Value):(w.setCell ⟨eb,i,none⟩ v).ownsRow b e k (.slice (some ⟨eb,0,none⟩) n cap) n (xs.set i v):=by
 obtain⟨hl,⟨h1,_⟩ | ⟨g,cap',cur,h1,h2,h3,h4,h5,h6,h7⟩⟩:=h
 ·cases h1
 ·injection h1 with ha _ hc
  injection ha with ha
  injection ha with ha
  subst ha;subst hc;have hB:Blk w eb e cur.toList:=h3;have hB2:=hB.set_ i v;refine⟨by rw[List.length_set,hl],.inr ⟨eb,cap,(cur.toList.set i v).toArray,rfl,h2,hB2,h4,h5,by simpa using h6,?_⟩⟩;rw[<-h7];simp[List.take_set]
theorem Zmf(m:List PEd)(e:PEd)(x:Str):(Je (m++[e])).set (m.length*3+2) (Z0 x)=Je (m++[{ e with text:=x }]):=by
 rw[Ox,Ox,lL _ _ (by rw[Ux];omega),Ux,lQ];rfl
theorem Zmg(m:List PEd)(e:PEd)(n:Nat):(Je (m++[e])).set (m.length*3+1) (.int .i64 (n:Int))=Je (m++[{ e with n:=n }]):=by
 rw[Ox,Ox,lL _ _ (by rw[Ux];omega),Ux,lQ];rfl
theorem Z70(m:List PEd)(e:PEd)(rest:List Value)(j:Nat)(hj:j<3):(Je (m++[e])++rest)[m.length*3+j]?=(Z08 e.kind e.n e.text)[j]?:=by
 rw[Ox,l8,lM (by rw[Ux];omega),Ux,lQ,List.getElem?_append_left (by simp[Je,Z08];omega)];simp[Je]
theorem Zmh(W0 W:World)(lb:Nat)(l:List PEd)(k:Int)(hk:k=1 ∨ k=2 ∨ k=3)(s:Str)(h:EdSt W0 W lb l)(hl:l.length<=100000)(hn:∀ e ∈ l,e.n<=1000000/\e.text.length<=1000000)(hs:s.length<=1000000) :
  Calls lB 83 #[.int .i64 k,Z0 s,.pointer (some ⟨lb,0,none⟩)] W fun e W'=>e=.returned (.tuple #[])/\EdSt W0 W' lb (Xc l k s):=by
 obtain⟨V,hV,hrow⟩:=h.row;have hlow:=h.low;have hbel:=h.below;clear h;have cV:W.cell? ⟨lb,0,none⟩=some V:=hV.cell 0;have hV':=iD hV;unfold Z0;obtain⟨A,c,rfl,_,_⟩:=Z6 hrow;have q2:(⟨s.toArray⟩:ByteArray).size=s.length:=Ui s;go_enter func83,ntmps83;obtain⟨p,hp⟩:∃ p:Bool,p=true ↔ ∀ e,l.getLast?=some e->e.kind ≠ k:=⟨decide (∀ e,l.getLast?=some e->e.kind ≠ k),by simp⟩;have hrow':=iD hrow;go_upto_region 0 with fail;go_cut [18] (fun v wx=>v=.bool p/\wx=W)
 case first =>
  rcases lR l with rfl | ⟨m,e,rfl⟩
  ·have hpt:p=true:=hp.2 (by simp);go_wp2_with fail;go_meet;exact⟨by rw[hpt],rfl⟩
  ·rw[lS] at *;have e1:(m++[e]).length=m.length+1:=by simp
   rw[e1] at cV hrow;obtain⟨eb,cap,rest,he,hlo,hnc,hB⟩:=Z6z hrow (by omega);cases he
   have i1:(0:Int)<=(m.length:Int):=by omega
   have c0:W.cell? ⟨eb,m.length*3,none⟩=some (.int .i64 e.kind):=by
    rw[hB.cell,Ox,l8,lM (by rw[Ux];exact lA _),Ux,lU];rfl
   have hpe:p = !(decide (e.kind=k)):=by
    cases hpp:p
    ·have : ¬ ∀ x,(m++[e]).getLast?=some x->x.kind ≠ k:=fun h=>by rw[hp.2 h] at hpp;cases hpp
     have : e.kind=k:=by
      apply lI;intro hne;exact this (fun x hx=>by simp at hx;rw[<-hx];exact hne)
     simp[this]
    ·have:=hp.1 hpp e (by simp);simp[this]
   have d1:(((m.length+1:Nat):Int) == 0)=false:=by rw[beq_eq_false_iff_ne];omega
   have i2:(m.length:Int)<((m.length+1:Nat):Int):=by omega
   have i3:((m.length+1:Nat):Int) - 1=(m.length:Int):=by omega
   go_wp2_with fail;go_meet;refine⟨?_,rfl⟩;rw[hpe,show ((m.length:Int)+1 == 0)=false by rw[beq_eq_false_iff_ne];omega];by_cases hek:e.kind=k <;> simp[hek,bne]
 case rest =>
  obtain⟨rfl,rfl⟩:=hcut;go_upto_if 18 with fail;go_cut [] (fun wx=>∃ m e,EdSt W0 wx lb (m++[e])/\e.kind=k/\Xc l k s=m++[K0 e s]/\m.length<=100000/\e.n<=1000000/\e.text.length<=1000000)
  case first =>
   cases hpp:p
   ·have : ∃ m e,l=m++[e]/\e.kind=k:=by
     apply lI;intro hne;rw[hp.2 (fun e he hk'=>hne ⟨l.dropLast,e,by rw[List.getLast?_eq_some_iff] at he;obtain⟨ys,rfl⟩:=he;simp,hk'⟩)] at hpp;cases hpp
    obtain⟨m,e,rfl,hek⟩:=this;go_wp2_with fail;go_meet;have hne:=hn e (by simp);exact⟨m,e,⟨hbel,hlow,_,hV'.out,hrow'.out⟩,hek,by rw[<-hek];exact Zcd m e s,by simp at hl;omega,hne.1,hne.2⟩
   ·have hpn:=hp.1 hpp;have hpush:Xc l k s=l++[K0 ⟨k,0,[]⟩ s]:=by
     rcases lR l with rfl | ⟨m,e,rfl⟩
     ·exact Zce k s
     ·rw[lS] at hpn ⊢;exact Zcf m e k s (hpn e (by simp))
    have htag:=Zcg hrow'.out hV'.out (by decide);have hlt':=iD (fun g hg=>(hrow'.out.lt g hg).1);replace hpush:=iD hpush;replace htag:=iD htag;clear hp hpp hpn hrow hV q2;go_wp2_with (at_builtin;refine X0 _ rfl (.tmp 19) (.tmp 22) 40 rfl (lb+1) 144 _ 3 32 underlying40 Zhg (.slice A l.length c) l.length (Je l) rfl (hrow'.out.alloc _) (fun _=>True) (some ⟨wc.heap.size,0,none⟩) 1 1 [.int .i64 k,.int .i64 0,.string ⟨#[]⟩] rfl rfl (Rd.of_blk (cs:=[.int .i64 k,.int .i64 0,.string ⟨#[]⟩]) (r:=[]) (Blk.new_at rfl) rfl trivial) (by simp[l9]) (by unfold maxLen;omega) (by omega) (by simp;omega) ?_;intro v4 W4 hrow4 hg4 hv4;obtain⟨GA,gc,rfl,_,_⟩:=Z6 hrow4;have hB4:Blk W4 lb 40 [.slice A l.length c]:=(hV'.out.alloc _).grown hg4 htag.out;have cL:=hB4.cell 0;have fL:=hB4.frozen 0;simp only[List.getElem?_cons_zero] at cL;replace hB4:=iD hB4;replace hrow4:=iD hrow4;replace hg4:=iD hg4;clear hv4 cV;go_frame);go_meet;have hsz4:=hg4.out.size;simp at hsz4;refine⟨l,⟨k,0,[]⟩,⟨?_,by simp;omega,_,hB4.out.set_ 0 _,?_⟩,rfl,hpush.out,hl,by simp,by simp⟩
    ·exact ((hbel.trans ((lH _ _).alloc (by omega) _)).grown hg4.out (by simp;omega) (fun g hg=>by have:=hlt'.out g hg;omega)).setCell (lA _) _
    ·rw[Ox,show (l++[(⟨k,0,[]⟩:PEd)]).length=l.length+1 by simp];exact Zhq hrow4.out hB4.out (by decide)
  case rest =>
   obtain⟨m,e,hst,hek,hpu,hml,hnl,htl⟩:=hcut;clear hp hrow hV cV hrow' hV' hbel hlow hn;obtain⟨V,hV,hrow⟩:=hst.row;have e1:(m++[e]).length=m.length+1:=by simp
   rw[e1] at hrow;obtain⟨eb,cap,rest,rfl,hlo,hnc,hB⟩:=Z6z hrow (by omega);have cV:wc.cell? ⟨lb,0,none⟩=some (.slice (some ⟨eb,0,none⟩) (m.length+1) cap):=hV.cell 0;have c1:wc.cell? ⟨eb,m.length*3+1,none⟩=some (.int .i64 (e.n:Int)):=(hB.cell _).trans (Z70 m e rest 1 (by omega));have c2:wc.cell? ⟨eb,m.length*3+2,none⟩=some (.string ⟨e.text.toArray⟩):=(hB.cell _).trans (Z70 m e rest 2 (by omega));have f1:=hB.frozen (m.length*3+1);have f2:=hB.frozen (m.length*3+2);have q1:(⟨e.text.toArray⟩:ByteArray).size=e.text.length:=Ui e.text;have i1:(0:Int)<=(m.length:Int):=by omega
   have i2:(m.length:Int)<((m.length+1:Nat):Int):=by omega
   have i3:((m.length+1:Nat):Int) - 1=(m.length:Int):=by omega
   have hne:lb ≠ eb:=by omega
   have hbel:=hst.below;have hlow:=hst.low;replace hpu:=iD hpu;replace hV:=iD hV;replace hrow:=iD hrow;by_cases hk3:k=3
   ·have hup:K0 e s={ e with text:=e.text++s }:=by unfold K0;rw[if_pos (by rw[hek];exact hk3)]
    subst hk3;replace hup:=iD hup;clear hk hst hB hek;go_wp2_with fail;refine bodyPost_end (v:=.tuple #[]) (results_none (by rfl) _ _ _) rfl ⟨rfl,?_⟩;rw[Zf7,hpu.out,hup.out];refine⟨hbel.setCell (by show lb<=eb;omega) _,by simpa using hlow,_,hV.out.far hne _,?_⟩;have h:=Zch (i:=m.length*3+2) hrow.out (Z0 (e.text++s));rw[Zmf] at h;unfold Z0 at h;simpa using h
   ·have hup:K0 e s={ e with n:=e.n+1 }:=by unfold K0;rw[if_neg (by rw[hek];exact hk3)]
    replace hup:=iD hup;have d3:(k == 3)=false:=by rw[beq_eq_false_iff_ne];exact hk3
    clear hst hB hek;go_wp2_with fail;refine bodyPost_end (v:=.tuple #[]) (results_none (by rfl) _ _ _) rfl ⟨rfl,?_⟩;rw[hpu.out,hup.out];refine⟨hbel.setCell (by show lb<=eb;omega) _,by simpa using hlow,_,hV.out.far hne _,?_⟩;have h:=Zch (i:=m.length*3+1) hrow.out (.int .i64 ((e.n+1:Nat):Int));rw[Zmg] at h;simpa using h
end
section
set_option maxRecDepth 100000
set_option maxHeartbeats 16000000
open Go.Lib renaming hid → iD
open Go.Proofs.Tryz
open Go.RowKit
theorem Zmi(d:Str)(hd:d.length=32)(p:Value)(w:World)(hp:∃ A n c,p=.slice A n c):(Instr.build 94 #[(0,.agg (d.map B).toArray),(1,p)]).run lB w=.ok (.agg (Yq d p).toArray) w:=by
 obtain⟨A,n,c,rfl⟩:=hp
 iterate 32 (rcases d with _ | ⟨_,d⟩;· (exfalso;simp at hd;done))
 obtain rfl:d=[]:=by
  simp only[lE] at hd;exact nA.1 (by omega)
 kernel_rfl
theorem Zmj(d:Str)(hd:d.length=32)(p:Value)(w:World)(hp:∃ A n c,p=.slice A n c):(Instr.buildSlice 68 1 #[(0,.agg (Yq d p).toArray)]).run lB w=.ok (.slice (some ⟨w.heap.size,0,none⟩) 1 1) (w.alloc (.cells (Yq d p).toArray 94)):=by
 obtain⟨A,n,c,rfl⟩:=hp
 iterate 32 (rcases d with _ | ⟨_,d⟩;· (exfalso;simp at hd;done))
 obtain rfl:d=[]:=by
  simp only[lE] at hd;exact nA.1 (by omega)
 kernel_rfl
theorem Zmk(d:Str)(A:Option Addr)(n c:Nat):∀ v ∈ Yq d (.slice A n c),v.oneCell'=true:=by
 intro v hv;simp only[Yq,nB,List.mem_map,List.mem_cons,List.not_mem_nil,or_false] at hv;rcases hv with ⟨_,_,rfl⟩ | rfl <;> rfl
structure RdSt (w W:World) (NV:Value) (N:List PNd):Prop where
 below:Below w.heap.size w W
 R:Blk W w.heap.size 132 [Z2,.map none]
 P:Blk W (w.heap.size+1+1) 132 [NV,.map (some (w.heap.size+1))]
 M:Zg W (w.heap.size+1) (byN N)
 row:Jd W w.heap.size NV N
theorem RdSt.calm{w W W':World}{NV:Value}{N:List PNd}(h:RdSt w W NV N)(hb:Below W.heap.size W W'):RdSt w W' NV N :=
 ⟨h.below.trans (hb.mono h.below.size),h.R.below hb h.R.lt,h.P.below hb h.P.lt,h.M.below hb h.M.lt,h.row.keepB hb⟩
theorem Zml{w w7 w8:World}{NV U:Value}{N:List PNd}{vs:List Value}{xs:List Value}{es:List (Value × Value)}{ps rs:List Value}{gp gr gm:Nat}{par:List Str}(hrow:w7.ownsRow w.heap.size 94 33 NV N.length xs)
  (hP:Blk w7 gp 132 ps) (hR:Blk w7 gr 132 rs) (hM:Zg w7 gm es) (hb:Below w.heap.size w w7) (hd:Z7 w7 (Yc w7 w.heap.size) U par)
  (hh:∀ (k:Nat) (x:PNd) u,N[k]?=some x->vs[k]?=some u->Z7 w7 (Yc w7 w.heap.size) u x.par) (hg:w7.grownBy w8 NV.ownBlock) :
  Blk w8 gp 132 ps/\Blk w8 gr 132 rs/\Zg w8 gm es/\Below w.heap.size w w8/\Z7 w8 (Yc w8 w.heap.size) U par/\(∀ (k:Nat) (x:PNd) u,N[k]?=some x->vs[k]?=some u->Z7 w8 (Yc w8 w.heap.size) u x.par):=by
 have ht8:=Touch.grown (L:=NV.ownBlock.toList) hg (fun b hb=>by simp[hb]);have hap:∀ g t' cs,Blk w7 g t' cs->t' ≠ 94->g ∉ NV.ownBlock.toList:=fun g t' cs hB hne hm=>Zcg hrow hB hne (nC.1 hm).symm;refine⟨hP.touch ht8 (hap _ _ _ hP (by decide)),hR.touch ht8 (hap _ _ _ hR (by decide)),hM.touch ht8 (fun hm=>?_),hb.trans (Yd hrow hg hb.size),hd.keepRow hrow (by decide) hg,fun k x u h1 h2=>(hh k x u h1 h2).keepRow hrow (by decide) hg⟩;obtain⟨cs,hB⟩:=Q2 hrow (nC.1 hm);exact hM.ne_blk hB rfl
theorem Zci(L:List PCom)(hH:HistOk L)(LV:Value)(ok:Nat->Prop)(w:World)(hL:CsIs w ok LV L)(hK:Y9 w) :
  Calls lB 78 #[LV] w fun e w'=>∃ qb NV,e=.returned (.tuple #[.agg #[NV,.map (some qb)],.int .i64 0,.int .i64 0])/\Zg w' qb (byN (Z5 L))/\Jd w' w.heap.size NV (Z5 L)/\w.heap.size<=qb/\Below w.heap.size w w':=by
 have hlen:=hH.len;have hL':=hL.row;obtain⟨A,cap,hLV,_⟩:=hL';have hLb:=iD (fun W (hb:Below w.heap.size w W)=>hL.stayB hb);have hwr:=iD (fun m c (hc:L[m]?=some c) cs NV W (hb:Below w.heap.size w W) (b:Nat) (hC:Y8 W (fun _=>True) cs c) hN hM=>Zly (Z5 (L.take m)) (hH.nds m) L hlen hH.fit c (hH.next m c hc) cs NV LV b (fun _=>True) W hC hN hM ((hL.stayB hb).stay (fun _ _ _=>rfl) (lA _) (fun _ _ _=>trivial)) (keys_below hK hb));subst hLV;replace hH:=iD hH;clear hL hK;have hmm:=@run_makeMap lB;have g200:decide ((200:Int)<(L.length:Int))=false:=decide_eq_false (by omega);go_enter func78,ntmps78;go_wp2_with fail;generalize hW1:lC (lC (lC w _) _) (lJ _ 132)=w1;have hst1:Hid (RdSt w w1 Z2 []):=iD (by
  rw[<-hW1];refine⟨(bL.alloc (by simp) _).alloc (by simp;omega) _,((Blk.new_at (cs:=[Z2,.map none]) rfl).alloc _).alloc _,Blk.new_at (cs:=[Z2,.map (some (w.heap.size+1))]) (by simp),(Zg.new_at (by simp)).alloc _,Jd.nil⟩)
 clear hW1 hmm;go_loopw [18] (fun i wr=>∃ (m:Nat) (NV:Value),m<=L.length/\i=.int .i64 (m:Int)/\RdSt w wr NV (Z5 (L.take m))) (fun i _=>L.length - (intOf i).toNat)
 case atStart=>exact⟨0,Z2,Nat.zero_le _,rfl,hst1.out⟩
 case round =>
  obtain⟨m,NV,hm,rfl,hst⟩:=hrel;by_cases hlt:m<L.length
  ·obtain⟨c,hcm⟩:∃ c,L[m]?=some c:=⟨_,lT hlt⟩;obtain⟨_,_,he,hcom⟩:=(hLb.out _ (lH _ _)).row;obtain⟨cb,co,cs,hA,_,hcbl,hCI,hcc⟩:=hcom m c hcm
   injection he with he1 he2 he3
   subst he1;subst he3;subst hA;have hCI0:=(hCI.stay (ok':=fun _=>True) (fun _ _ _=>rfl) (fun _ _ _=>trivial)).stayB hst.below;obtain⟨pv,ov,rfl,hPV,hOV⟩:=hCI;have hcf:=hH.out.fit c (List.mem_of_getElem? hcm);have hidl:(idC c).length=32:=rfl;obtain⟨ds,hds⟩:∃ ds,ds=idC c:=⟨_,rfl⟩;rw[<-hds] at hidl;have hNl:(Z5 (L.take m)).length=m:=Zc6 L m hm;have hsn:=Zm9 hcm;have hbn:∀ q ∈ byN (Z5 (L.take m)),q.1 ≠ .agg (ds.map B).toArray:=Z1y (by rw[hds];exact (hH.out.next m c hcm).new);have hbk:=Qc (hH.out.nds m);obtain⟨N,hNe⟩:∃ N,N=Z5 (L.take m):=⟨_,rfl⟩;rw[<-hNe] at hst hNl hsn hbn hbk;have hNf:∀ x ∈ N,x.id.length=32:=fun x hx=>((hH.out.nds m).fit x (by rw[<-hNe];exact hx)).1;have hPp:=iD (fun W (hb:Below w.heap.size w W)=>hPV.stayB hb);have hPl:=hcf.par;have hP8:=(hH.out.next m c hcm).may.par;have hwc:=iD (fun W (hb:Below wr.heap.size wr W) (hS:RdSt w W NV N)=>hwr.out m c hcm _ NV W hS.below (w.heap.size+1) (hCI0.stayB hb) (by rw[<-hNe];exact (hS.row.nds hNf).stay (fun _ _ _=>rfl) (lA _) (fun _ _ _=>trivial)) (by rw[<-hNe];exact hS.M));obtain⟨PA,pc,hPe,_,_⟩:=hPV;obtain⟨OA,oc,hOe,_,_⟩:=hOV;subst hPe;subst hOe;obtain⟨NA,ncap,hNVe,_⟩:=hst.row.form;have l0:wr.cell? ⟨cb,co+m*4,none⟩=some (.slice PA c.parents.length pc):=(hst.below.cell (p:=⟨cb,co+m*4,none⟩) hcbl).trans (hcc 0 _ rfl);have l1:wr.cell? ⟨cb,co+m*4+1,none⟩=some (Z0 c.author):=(hst.below.cell (p:=⟨cb,co+m*4+1,none⟩) hcbl).trans (hcc 1 _ rfl);have l2:wr.cell? ⟨cb,co+m*4+2,none⟩=some (Z0 c.note):=(hst.below.cell (p:=⟨cb,co+m*4+2,none⟩) hcbl).trans (hcc 2 _ rfl);have l3:wr.cell? ⟨cb,co+m*4+3,none⟩=some (.slice OA c.ops.length oc):=(hst.below.cell (p:=⟨cb,co+m*4+3,none⟩) hcbl).trans (hcc 3 _ rfl);have i1:(0:Int)<=(m:Int):=by omega
   have i2:(m:Int)<(L.length:Int):=by omega
   have p0':∀ o,(wr.alloc o).cell? ⟨w.heap.size+1+1,0,none⟩=some NV:=fun o=>(hst.P.alloc o).cell 0;have p1':∀ o,(wr.alloc o).cell? ⟨w.heap.size+1+1,1,none⟩=some (.map (some (w.heap.size+1))):=fun o=>(hst.P.alloc o).cell 1;rw[hNVe] at p0';replace hst:=iD hst;replace hds:=iD hds;replace hNe:=iD hNe;replace hNl:=iD hNl;replace hsn:=iD hsn;replace hbn:=iD hbn;replace hbk:=iD hbk;replace hCI0:=iD hCI0;replace hNVe:=iD hNVe;replace hcm:=iD hcm;clear hcom hcc hst1;unfold Z0 at l1 l2 hwc;go_wp2_with fail;generalize hW2:lC wr (lJ _ 82)=w2;have hb2:Below wr.heap.size wr w2:=by rw[<-hW2];exact bL
   have hX2:Blk w2 wr.heap.size 82 [.slice PA c.parents.length pc,.string ⟨c.author.toArray⟩,.string ⟨c.note.toArray⟩,.slice OA c.ops.length oc]:=by rw[<-hW2];exact Blk.new_at (cs:=[.slice PA c.parents.length pc,.string ⟨c.author.toArray⟩,.string ⟨c.note.toArray⟩,.slice OA c.ops.length oc]) rfl
   have hcall:=hwc.out w2 hb2 (hst.out.calm hb2);clear hW2 hwc;rw[hNVe.out] at hcall;refine hcall.mono ?_;clear hcall;rintro e w3 ⟨rfl,hb3⟩;rw[<-hds.out];have hb23:=hb2.trans (hb3.mono hb2.size);have hst3:=iD (hst.out.calm hb23);have hX3:=iD (hX2.below hb3 hX2.lt);clear hst p0' p1' l0 l1 l2 l3 hb2 hb3 hX2 hwr hCI0;go_upto_region 8 with (first
    | (refine Zo rfl 47 (.tmp 8) (.tmp 28) rfl w3.heap.size (ds.map B) rfl rfl 47 Z3 (Blk.new_at rfl) (by simp[hidl,Z3]) (Za hidl) (Yk _) ?_;go_frame)
    | fail)
   generalize hw1:World.setRow _ w3.heap.size (ds.map B).toArray=w4;have hD4:Blk w4 w3.heap.size 47 (ds.map B):=by
    rw[<-hw1];exact (Blk.new_at (w:=w3) (t:=47) (cs:=Z3) rfl).setRow_same (ds.map B)
   have hb4:Below w3.heap.size w3 w4:=by
    rw[<-hw1];exact below_setRow ((lH w3.heap.size w3).alloc (lA _) (.cells Z3.toArray 47)) (lA _) (ds.map B).toArray
   clear hw1;have hst4:=hst3.out.calm hb4;have hX4:=hX3.out.below hb4 hX3.out.lt;obtain⟨w5,hrun,hM5,ht5⟩:=hst4.M.store Xz underlying26 hbk.out (Jm ds hidl) hbn.out (.int .i64 (m:Int));have p1:w4.cell? ⟨w.heap.size+1+1,1,none⟩=some (.map (some (w.heap.size+1))):=hst4.P.cell 1;have hk5:∀ g t' cs,Blk w4 g t' cs->Blk w5 g t' cs:=fun g t' cs hB=>hB.touch (V9 ht5) (by simpa using hst4.M.ne_blk hB);have hP5:=hk5 _ _ _ hst4.P;have hR5:=hk5 _ _ _ hst4.R;have hX5:=hk5 _ _ _ hX4;have hD5:=hk5 _ _ _ hD4;have hne5:∀ g t' cs,Blk w4 g t' cs->g ∈ [w.heap.size+1]->False:=fun g t' cs hB hb=>hst4.M.ne_blk hB (by simpa using hb);have hN5:=hst4.row.keepT (V9 ht5) (fun b hb cs hB=>hne5 b _ cs hB hb) (fun b hb cs hB=>hne5 b _ cs hB hb);have hws:=hst4.below.size;have hb5:=hst4.below.trans ((V9 ht5).below hws (fun i hi=>by simp at hi;omega));have s5:w4.heap.size<=w5.heap.size:=(V9 ht5).size;have hPp5:=hPp.out _ hb5;replace hrun:=iD hrun;replace hM5:=iD hM5;replace hD4:=iD hD4;replace hR5:=iD hR5;replace hb5:=iD hb5;replace hN5:=iD hN5;replace hPp5:=iD hPp5;clear hb4 ht5 hk5 hX4 hst4 hne5 hst3 hX3;replace hP5:=iD hP5;replace hX5:=iD hX5;replace hD5:=iD hD5;go_upto_region 11 with (first
    | (refine Y0 rfl 47 (.tmp 8) rfl w3.heap.size rfl 47 (ds.map B) hD4.out _ underlying47 rfl (Za hidl) ?_;go_frame)
    | (refine Ol rfl (Ok 26 (.tmp 36) (.tmp 37) (.tmp 38) rfl _ _ _ rfl rfl rfl hrun.out) ?_;go_frame)
    | fail)
   obtain⟨VN,hVN⟩:∃ VN,VN=NV:=⟨_,rfl⟩;rw[<-hVN] at hP5 hN5;rw[hNVe.out] at hVN;subst hVN;obtain⟨vs,hvl,hrow5,hh5⟩:=hN5.out;obtain⟨PS,hPS⟩:∃ PS:World->Prop,∀ x,PS x ↔ Blk x (w.heap.size+1+1) 132 [.slice NA N.length ncap,.map (some (w.heap.size+1))]/\Blk x wr.heap.size 82 [.slice PA c.parents.length pc,.string ⟨c.author.toArray⟩,.string ⟨c.note.toArray⟩,.slice OA c.ops.length oc]/\Blk x w3.heap.size 47 (ds.map B):=⟨_,fun _=>Iff.rfl⟩;have s1:∀ s:Cls PS,s.1.cell? ⟨w.heap.size+1+1,0,none⟩=some (.slice NA N.length ncap):=fun s=>((hPS _).1 s.2).1.cell 0;have s2:∀ s:Cls PS,s.1.cell? ⟨wr.heap.size,0,none⟩=some (.slice PA c.parents.length pc):=fun s=>((hPS _).1 s.2).2.1.cell 0;have s3:Hid (∀ w',(∃ s:Cls PS,w'=s.1)->Blk w' w3.heap.size 47 (ds.map B)):=iD (by rintro _ ⟨s,rfl⟩;exact ((hPS _).1 s.2).2.2);have s4:PS w5.drew:=(hPS _).2 ⟨hP5.out.drew,hX5.out.drew,hD5.out.drew⟩;haveI : Nonempty (Cls PS):=⟨⟨_,s4⟩⟩;replace hPS:=iD hPS;have hRdP:Rd w5.drew ok PA (Zy c.parents):=by
    obtain⟨_,_,e,_,hr⟩:=hPp5.out.stayB (lH _ _).drew
    injection e with e1 _ _
    rw[e1];exact hr
   refine Kk (fun w'=>∃ s:Cls PS,w'=s.1) [([0,1,2,3,4],5),([6],7)] [] 8 [9,10] (by kernel_rfl) (by kernel_rfl) (fun _ d _ _ _ h=>by cases d <;> exact h) ⟨⟨_,s4⟩,rfl⟩ ?_;simp only[Jr,Zj,List.map_cons,List.map_nil,Yw,Ys];repeat (first | go_big_quiet_step (fail) | (refine Yf 47 (.tmp 8) rfl rfl w3.heap.size 0 rfl 47 (ds.map B) (ds.map B) [] s3.out (by simp) _ underlying47 rfl (Za hidl) ?_;go_frame))
   refine lG ?_;intro K hK;have hws5:=hb5.out.size;refine V5 _ rfl (.const Z2) (.tmp 43) 37 rfl w5.heap.size 47 (.agg Z3.toArray) 32 32 underlying37 Z5x Z2 0 [] rfl ⟨rfl,.inl ⟨rfl,rfl⟩⟩ ok PA c.parents.length pc (Zy c.parents) rfl (Vx hPl.ok) hRdP (Z00 c.parents) (by unfold maxLen;omega) (by omega) (by simp) ?_;intro v6 w6 hrow6 hg6 hv6;rw[Nat.zero_add,l7] at hrow6;have hd6:=Gb hrow6;obtain⟨pa,pc',rfl,_,_⟩:=Z6 hrow6;have hb6:Below w5.heap.size w5 w6:=(lH _ _).drew.trans (Yd (v:=Z2) (n:=0) (xs:=[]) (e:=47) (size:=32) ⟨rfl,.inl ⟨rfl,rfl⟩⟩ hg6 (by simp));have hP6:=hP5.out.below hb6 hP5.out.lt;have hX6:=hX5.out.below hb6 hX5.out.lt;have hD6:=hD5.out.below hb6 hD5.out.lt;have hM6:=hM5.out.below hb6 hM5.out.lt;have hR6:=hR5.out.below hb6 hR5.out.lt;have hbw6:=hb5.out.trans (hb6.mono hws5);refine hK _ _ ⟨⟨_,(hPS.out _).2 ⟨hP6,hX6,hD6⟩⟩,rfl⟩ ?_;clear hK;go_frame;refine Yp (.build 94 #[(0,.tmp 41),(1,.tmp 44)]) rfl rfl (.agg (Yq ds (.slice pa c.parents.length pc')).toArray) (fun w' _=>exec_build2 94 0 1 (.tmp 41) (.tmp 44) rfl (.agg (ds.map B).toArray) (.slice pa c.parents.length pc') _ rfl rfl (Zmi ds hidl _ w' ⟨_,_,_,rfl⟩)) ?_;go_frame;refine lG ?_;intro K hK;refine Z07 _ _ rfl _ (Uk 68 (.tmp 45) rfl _ _ rfl (Zmj ds hidl (.slice pa c.parents.length pc') _ ⟨_,_,_,rfl⟩)) ?_;generalize hW7:lC w6 _=w7;have hN7:Blk w7 w6.heap.size 94 (Yq ds (.slice pa c.parents.length pc')):=by rw[<-hW7];exact Blk.new_at (cs:=Yq ds (.slice pa c.parents.length pc')) rfl
   have hb7:Below w6.heap.size w6 w7:=by rw[<-hW7];exact bL
   have hP7:=hP6.below hb7 hP6.lt;have hX7:=hX6.below hb7 hX6.lt;have hD7:=hD6.below hb7 hD6.lt;have hM7:=iD (hM6.below hb7 hM6.lt);have hR7:=iD (hR6.below hb7 hR6.lt);have hbw7:=iD (hbw6.trans (hb7.mono hbw6.size));have hd7:=iD ((hd6.keepB hb7).lower hws5);have hb57:=hb6.trans (hb7.mono hb6.size);have hrow7:=iD (Zk (L:=[]) hrow5 (Touch.ofBelow hb57) (by simp));have hh7:=iD (fun k x u h1 h2=>(hh5 k x u h1 h2).keepB hb57);refine hK _ _ ⟨⟨_,(hPS.out _).2 ⟨hP7,hX7,hD7⟩⟩,rfl⟩ ?_;clear hK hW7 hM6 hR6 hb6 hb7 hbw6 hP6 hX6 hD6 hX7 hD7 hd6 hrow6 hrow5 hh5 hb57;go_frame;refine lG ?_;have hws7:=hbw7.out.size;have hN200:N.length<=200:=by have:=hNl.out;omega
   have hnl:(Yq ds (.slice pa c.parents.length pc')).length=33:=by simp[Yq,hidl]
   replace hN7:=iD hN7;replace hP7:=iD hP7;go_wp2_with (first
    | (at_builtin;refine X0 _ rfl (.tmp 40) (.tmp 46) 68 rfl w.heap.size 94 (.agg Z0e.toArray) 33 56 underlying68 Zj7 (.slice NA N.length ncap) N.length (Jz N vs) rfl hrow7.out (fun _=>True) (some ⟨w6.heap.size,0,none⟩) 1 1 (Yq ds (.slice pa c.parents.length pc')) rfl (by simp[Yq,hidl]) (Rd.of_blk (cs:=Yq ds (.slice pa c.parents.length pc')) (r:=[]) hN7.out (by simp) trivial) (Zmk _ _ _ _) (by unfold maxLen;omega) (by omega) (by omega) ?_;intro v8 w8 hrow8 hg8 hv8;obtain⟨nd,cap',rs,rfl,hnd,_,hNB8⟩:=Z6z hrow8 (Nat.succ_pos _);obtain⟨hP8,hR8,hM8,hbw8,hd8,hh8⟩:=Zml hrow7.out hP7.out hR7.out hM7.out hbw7.out hd7.out hh7.out hg8;have c0:w8.cell? ⟨w.heap.size+1+1,0,none⟩=some (.slice NA N.length ncap):=hP8.cell 0;have f0:=hP8.frozen 0;replace hP8:=iD hP8;replace hR8:=iD hR8;replace hM8:=iD hM8;replace hbw8:=iD hbw8;replace hd8:=iD hd8;replace hh8:=iD hh8;replace hrow8:=iD hrow8;replace hNB8:=iD hNB8;clear hg8 hv8;go_frame)
    | fail)
   have hst9:RdSt w (w8.setCell ⟨w.heap.size+1+1,0,none⟩ (.slice (some ⟨nd,0,none⟩) (N.length+1) cap')) (.slice (some ⟨nd,0,none⟩) (N.length+1) cap') (N++[Jc c]):=by
    have hT:=Touch.setCell (w:=w8) (L:=[w.heap.size+1+1]) (g:=w.heap.size+1+1) (i:=0) (.slice (some ⟨nd,0,none⟩) (N.length+1) cap') (by simp);have hrow9:Jd w8 w.heap.size (.slice (some ⟨nd,0,none⟩) (N.length+1) cap') (N++[Jc c]):=Jd.snoc hvl hh8.out hd8.out (by have:=hrow8.out;rwa [hds.out] at this);refine⟨hbw8.out.setCell (by show w.heap.size<=w.heap.size+1+1;omega) _,hR8.out.far (p:=⟨w.heap.size+1+1,0,none⟩) (by show w.heap.size ≠ w.heap.size+1+1;omega) _,hP8.out.set_ 0 _,?_,hrow9.keepT hT (fun b hb cs hB=>?_) (fun b hb cs hB=>?_)⟩
    ·rw[Z6y];have:=hM8.out.touch hT (by simp);rw[hds.out,<-hNl.out] at this;exact this
    ·obtain rfl:b=w.heap.size+1+1:=by simpa using hb
     exact hB.ne_ hP8.out (by decide) rfl
    ·obtain rfl:b=w.heap.size+1+1:=by simpa using hb
     exact hB.ne_ hP8.out (by decide) rfl
   exact⟨⟨m+1,_,by omega,by go_num,by rw[hsn.out];exact hst9⟩,by simp[intOf];omega⟩
  ·have hmt:m=L.length:=by omega
   subst hmt;rw[List.take_length] at hst;obtain⟨NA,ncap,hNVe,_⟩:=hst.row.form;subst hNVe;have p0:wr.cell? ⟨w.heap.size+1+1,0,none⟩=some (.slice NA (Z5 L).length ncap):=hst.P.cell 0;have p1:wr.cell? ⟨w.heap.size+1+1,1,none⟩=some (.map (some (w.heap.size+1))):=hst.P.cell 1;replace hst:=iD hst;clear hst1;go_wp2_with (first | (refine Zo rfl 132 (.tmp 2) (.tmp 50) rfl w.heap.size [.slice NA (Z5 L).length ncap,.map (some (w.heap.size+1))] rfl rfl 132 [Z2,.map none] hst.out.R rfl (by kernel_rfl) (by simp[l9]) ?_) | fail);have hT:=Touch.setRow (L:=[w.heap.size]) (w:=wr) (g:=w.heap.size) (by simp) (#[.slice NA (Z5 L).length ncap,.map (some (w.heap.size+1))]);refine Z17 rfl w.heap.size 132 [.slice NA (Z5 L).length ncap,.map (some (w.heap.size+1))] _ rfl (hst.out.R.setRow_same _) underlying132 rfl (by kernel_rfl) rfl _ _ rfl rfl ⟨w.heap.size+1,_,rfl,?_,?_,by omega,below_setRow hst.out.below (lA _) _⟩
   ·exact hst.out.M.touch hT (by simp)
   ·refine hst.out.row.keepT hT (fun b hb cs hB=>?_) (fun b hb cs hB=>?_)
    ·obtain rfl:b=w.heap.size:=by simpa using hb
     exact hB.ne_ hst.out.R (by decide) rfl
    ·obtain rfl:b=w.heap.size:=by simpa using hb
     exact hB.ne_ hst.out.R (by decide) rfl
end
section
set_option maxRecDepth 100000
set_option maxHeartbeats 8000000
open Go.Lib renaming hid → iD
open Go.Proofs.Tryz
open Go.RowKit
theorem Xx.below{gA gR N wd p q B:Nat}{a b:Str}{w w':World}(h:Xx gA gR N wd a b p q w)(hb:Below B w w')(hA:gA<B)(hR:gR<B):Xx gA gR N wd a b p q w':=by
 obtain⟨h1,cs,hB,r⟩:=h;exact⟨h1.below hb hR,cs,hB.below hb hA,r⟩
theorem EdSt.drewN{W0 W:World}{lb:Nat}{l:List PEd}(h:EdSt W0 W lb l)(n:Nat):EdSt W0 (W.drewN n) lb l:=by
 obtain⟨V,hV,hrow⟩:=h.row;exact⟨below_drewN h.below n,h.low,V,hV.drewN n,Zk (L:=[]) hrow (Touch.drewN n) (by simp)⟩
theorem own_lower'{w:World}{b b' n k:Nat}{e:TypeId}{v:Value}{xs:List Value}(h:w.ownsRow b e k v n xs)(hb:b'<=b):w.ownsRow b' e k v n xs:=by
 refine⟨h.1,h.2.imp id ?_⟩;rintro ⟨g,cap,cur,h1,h2,h3⟩;exact⟨g,cap,cur,h1,Nat.le_trans hb h2,h3⟩
def Z2a(l:List PEd)(q:Nat):Prop:=l.length<=q/\∀ e ∈ l,e.n<=q/\e.text.length<=q
theorem Z2b{l:List PEd}{q:Nat}(h:Z2a l q)(k:Int)(s:Str)(hs:s.length<=1):Z2a (Xc l k s) (q+1):=by
 have hup:∀ e:PEd,e.n<=q->e.text.length<=q->(K0 e s).n<=q+1/\(K0 e s).text.length<=q+1:=fun e h1 h2=>by
  unfold K0;split
  ·simp only[l6];omega
  ·simp only;omega
 have hall:∀ (m:List PEd) (e:PEd),Z2a m q->m.length+1<=q+1->e.n<=q->e.text.length<=q->Z2a (m++[K0 e s]) (q+1):=fun m e hm hl h1 h2=>by
  refine⟨by simp;omega,fun x hx=>?_⟩;rcases nB.1 hx with hx | hx
  ·have:=hm.2 x hx;omega
  ·obtain rfl:x=K0 e s:=by simpa using hx
   exact hup e h1 h2
 rcases lR l with rfl | ⟨m,e,rfl⟩
 ·rw[Zce];exact hall [] _ h (by simp) (by simp) (by simp)
 ·rw[lS] at h ⊢;have he:=h.2 e (by simp);have hl:=h.1;simp at hl;by_cases hk:e.kind=k
  ·subst hk;rw[Zcd];exact hall m e ⟨by omega,fun x hx=>h.2 x (by simp[hx])⟩ (by omega) he.1 he.2
  ·rw[Zcf m e k s hk];exact hall (m++[e]) _ h (by simp;omega) (by simp) (by simp)
theorem Zng(x y:UInt8)(a b:Str)(f:Nat)(h:x=y):X3 (f+1) (x :: a) (y :: b)=(1,[]) :: X3 f a b:=by rw[X3,if_pos h]
theorem Znh(x y:UInt8)(a b:Str)(f:Nat)(h:¬ x=y)(hc:cst a (y :: b)<=cst (x :: a) b):X3 (f+1) (x :: a) (y :: b)=(2,[]) :: X3 f a (y :: b):=by rw[X3,if_neg h,if_pos hc]
theorem Zni(x y:UInt8)(a b:Str)(f:Nat)(h:¬ x=y)(hc:¬ cst a (y :: b)<=cst (x :: a) b):X3 (f+1) (x :: a) (y :: b)=(3,[y]) :: X3 f (x :: a) b:=by rw[X3,if_neg h,if_neg hc]
theorem Znj(f:Nat):X3 f [] []=[]:=by cases f <;> rfl
theorem Z2c(l:List PEd)(k:Int)(s:Str)(st:List (Int × Str)):Qe l ((k,s) :: st)=Qe (Xc l k s) st:=rfl
structure MakeSt (W wr:World) (lb:Nat) (a b:Str) (i j:Nat) (l:List PEd):Prop where
 st:EdSt W wr lb l
 bd:Z2a l (i+j)
 goal:∃ f,(a.length - i)+(b.length - j)<=f/\Qe l (X3 f (a.drop i) (b.drop j))=Kt a b
theorem Znk(a b:Str)(ha:a.length<=1000)(hb:b.length<=1000)(w:World) :
  Calls lB 25 #[Z0 a,Z0 b] w fun e w'=>∃ V,e=.returned (.tuple #[V,.int .i64 0])/\w'.ownsRow w.heap.size 144 3 V (Kt a b).length (Je (Kt a b))/\Below w.heap.size w w':=by
 have ea:(⟨a.toArray⟩:ByteArray).size=a.length:=Ui a;have eb:(⟨b.toArray⟩:ByteArray).size=b.length:=Ui b;have hc:=Zme a b ha hb w;unfold Z0 at hc ⊢;obtain⟨n,hn⟩:∃ n,n=a.length:=⟨_,rfl⟩;obtain⟨m,hm⟩:∃ m,m=b.length:=⟨_,rfl⟩;rw[<-hn] at ea ha hc;rw[<-hm] at eb hb hc;replace hc:=iD hc;replace hn:=iD hn;replace hm:=iD hm;have d1:decide ((1000:Int)<(n:Int))=false:=decide_eq_false (by omega);have d2:decide ((1000:Int)<(m:Int))=false:=decide_eq_false (by omega);go_enter func25,ntmps25;go_wp2_with fail;refine hc.out.mono ?_;rintro e W ⟨gA,gR,rfl,hgA,hgR,hCW,hb0⟩;clear hc d1 d2;have hgA2:gA<W.heap.size:=by obtain⟨_,cs,hB,_⟩:=hCW;exact hB.lt
 have hgR2:gR<W.heap.size:=hCW.1.lt;replace hCW:=iD hCW;replace hb0:=iD hb0;go_upto_region 7 with fail;generalize hW1:lC W (lJ _ 40)=W1;have hp:MakeSt W W1 W.heap.size a b 0 0 []:=by
  rw[<-hW1];refine⟨⟨bL,by simp,Z2,Blk.new_at (cs:=[Z2]) rfl,⟨rfl,.inl ⟨rfl,rfl⟩⟩⟩,⟨by simp,by simp⟩,_,lA _,by simp[Kt]⟩
 clear hW1;replace hp:=iD hp;obtain⟨lb,hlb⟩:∃ lb,lb=W.heap.size:=⟨_,rfl⟩;rw[<-hlb] at hp ⊢;replace hlb:=iD hlb;go_loopw [9,10] (fun x y wr=>∃ i j:Nat,∃ l,i<=n/\j<=m/\x=.int .i64 i/\y=.int .i64 j/\MakeSt W wr lb a b i j l) (fun x y _=>(n - (intOf x).toNat)+(m - (intOf y).toNat))
 case atStart=>exact⟨0,0,[],by omega,by omega,rfl,rfl,hp.out⟩
 case round =>
 obtain⟨i,j,l,hi,hj,rfl,rfl,hM⟩:=hrel;clear hp;have hadd:Hid (∀ (q:Nat) (k:Int) (s:Str),(k=1 ∨ k=2 ∨ k=3)->s.length<=1->Calls lB 83 #[.int .i64 k,.string ⟨s.toArray⟩,.pointer (some ⟨lb,0,none⟩)] (lW _ q) fun e W'=>e=.returned (.tuple #[])/\EdSt W W' lb (Xc l k s)):=iD (fun q k s hk hs=>Zmh W _ lb l k hk s (hM.st.drewN q) (by have:=hM.bd.1;omega) (fun e he=>by have:=hM.bd.2 e he;omega) (by omega));have hbd:=iD hM.bd;obtain⟨f,hf,hfold⟩:=hM.goal;rw[<-hn.out,<-hm.out] at hf;by_cases hin:i<n
 ·skip
  obtain⟨f,rfl⟩:∃ g,f=g+1:=⟨f - 1,by omega⟩;have hia:i<a.length:=by rw[<-hn.out];exact hin
  have hda:a.drop i=a[i] :: a.drop (i+1):=lF hia;have dI:decide ((i:Int)<(n:Int))=true:=decide_eq_true (by omega);have i1:(0:Int)<=(i:Int):=by omega
  have i2:(i:Int)<(n:Int):=by omega
  by_cases hjm:j<m
  ·have hjb:j<b.length:=by rw[<-hm.out];exact hjm
   have hdb:b.drop j=b[j] :: b.drop (j+1):=lF hjb;have dJ:decide ((j:Int)<(m:Int))=true:=decide_eq_true (by omega);have j1:(0:Int)<=(j:Int):=by omega
   have j2:(j:Int)<(m:Int):=by omega
   by_cases hx:a[i]=b[j]
   ·rw[hda,hdb,Zng _ _ _ _ _ hx,Z2c] at hfold;have dX:∀ h1 h2,((((⟨a.toArray⟩:ByteArray)[i]'h1).toNat:Int) == (((⟨b.toArray⟩:ByteArray)[j]'h2).toNat:Int))=true:=fun _ _=>by
     show (((a[i]).toNat:Int) == ((b[j]).toNat:Int))=true;rw[hx];simp
    replace hfold:=iD hfold;clear hM hda hdb hx;go_wp2_with fail;go_quiet (fail);go_wp2_with fail;refine (hadd.out _ 1 [] (by decide) (by simp)).mono ?_;rintro e w3 ⟨rfl,hp3⟩;replace hp3:=iD hp3;clear hadd;go_wp2_with fail;refine⟨⟨(i+1),(j+1),Xc l 1 [],by omega,by omega,by first | rfl | go_num,by first | rfl | go_num,⟨hp3.out,?_,?_⟩⟩,?_⟩
    ·have:=Z2b hbd.out 1 [] (by simp);exact⟨by have:=this.1;omega,fun e he=>by have:=this.2 e he;omega⟩
    ·exact⟨f,by rw[<-hn.out,<-hm.out];omega,hfold.out⟩
    ·simp[intOf];omega
   ·have dX:∀ h1 h2,((((⟨a.toArray⟩:ByteArray)[i]'h1).toNat:Int) == (((⟨b.toArray⟩:ByteArray)[j]'h2).toNat:Int))=false:=fun _ _=>by
     show (((a[i]).toNat:Int) == ((b[j]).toNat:Int))=false;rw[beq_eq_false_iff_ne];intro h;exact hx (l5.1 (by omega))
    have hCr:=hCW.out.below hM.st.below (by have:=hlb.out;omega) (by have:=hlb.out;omega);have r0:=hCr.row i (by omega);have r1:=hCr.row (i+1) (by omega);have c10:=hCr.cell (i+1) j (by omega) (by omega) (.inl (by omega));have c01:=hCr.cell i (j+1) (by omega) (by omega) (.inl (by omega));rw[hdb] at c10;rw[hda] at c01;obtain⟨o,ho⟩:∃ o,o=i*(m+1):=⟨_,rfl⟩;obtain⟨o1,ho1⟩:∃ o1,o1=(i+1)*(m+1):=⟨_,rfl⟩;rw[<-ho] at r0 c01;rw[<-ho1] at r1 c10;replace ho:=iD ho;replace ho1:=iD ho1;obtain⟨z10,hz10⟩:∃ z,z=cst (a.drop (i+1)) (b[j] :: b.drop (j+1)):=⟨_,rfl⟩;obtain⟨z01,hz01⟩:∃ z,z=cst (a[i] :: a.drop (i+1)) (b.drop (j+1)):=⟨_,rfl⟩;rw[<-hz10] at c10;rw[<-hz01] at c01;have k1:(0:Int)<=(i:Int)+1:=by omega
    have k2:(i:Int)+1<(n:Int)+1:=by omega
    have k3:(0:Int)<=(j:Int)+1:=by omega
    have k4:(j:Int)+1<(m:Int)+1:=by omega
    have dE:((j:Int) == (m:Int))=false:=by rw[beq_eq_false_iff_ne];omega
    clear hCr;by_cases hz:z10<=z01
    ·rw[hda,hdb,Znh _ _ _ _ _ hx (by rw[<-hz10,<-hz01];exact hz),Z2c,<-hdb] at hfold;have dZ:decide ((z10:Int)<=(z01:Int))=true:=decide_eq_true (by omega);have dZn:decide (z10<=z01)=true:=decide_eq_true hz;replace hfold:=iD hfold;replace hz10:=iD hz10;replace hz01:=iD hz01;clear hM hda hdb hx;go_wp2_with fail;go_quiet (fail);go_wp2_with fail;go_quiet (fail);go_wp2_with fail;refine (hadd.out _ 2 [] (by decide) (by simp)).mono ?_;rintro e w3 ⟨rfl,hp3⟩;replace hp3:=iD hp3;clear hadd;go_wp2_with fail;refine⟨⟨(i+1),j,Xc l 2 [],by omega,by omega,by first | rfl | go_num,by first | rfl | go_num,⟨hp3.out,?_,?_⟩⟩,?_⟩
     ·have:=Z2b hbd.out 2 [] (by simp);exact⟨by have:=this.1;omega,fun e he=>by have:=this.2 e he;omega⟩
     ·exact⟨f,by rw[<-hn.out,<-hm.out];omega,hfold.out⟩
     ·simp[intOf];omega
    ·rw[hda,hdb,Zni _ _ _ _ _ hx (by rw[<-hz10,<-hz01];exact hz),Z2c,<-hda] at hfold;have dZ:decide ((z10:Int)<=(z01:Int))=false:=decide_eq_false (by omega);have dZn:decide (z10<=z01)=false:=decide_eq_false hz;have hex:(⟨b.toArray⟩:ByteArray).extract j (j+1)=⟨[b[j]].toArray⟩:=by
      apply nD;simp[ByteArray.data_extract];rw[hdb];rfl
     replace hfold:=iD hfold;replace hz10:=iD hz10;replace hz01:=iD hz01;clear hM hda hdb hx;go_wp2_with fail;go_quiet (fail);go_wp2_with fail;go_quiet (fail);go_wp2_with fail;refine (hadd.out _ 3 [b[j]] (by decide) (by simp)).mono ?_;rintro e w3 ⟨rfl,hp3⟩;replace hp3:=iD hp3;clear hadd;go_wp2_with fail;refine⟨⟨i,(j+1),Xc l 3 [b[j]],by omega,by omega,by first | rfl | go_num,by first | rfl | go_num,⟨hp3.out,?_,?_⟩⟩,?_⟩
     ·have:=Z2b hbd.out 3 [b[j]] (by simp);exact⟨by have:=this.1;omega,fun e he=>by have:=this.2 e he;omega⟩
     ·exact⟨f,by rw[<-hn.out,<-hm.out];omega,hfold.out⟩
     ·simp[intOf];omega
  ·obtain rfl:j=m:=by omega
   have hdb:b.drop j=[]:=lD (by rw[<-hm.out];exact lA _);rw[hda,hdb,X3,Z2c,<-hdb] at hfold;have dJ:decide ((j:Int)<(j:Int))=false:=decide_eq_false (by omega);have dE:((j:Int) == (j:Int))=true:=by simp
   replace hfold:=iD hfold;clear hM hda hdb;go_wp2_with fail;go_quiet (fail);go_wp2_with fail;go_quiet (fail);go_wp2_with fail;refine (hadd.out _ 2 [] (by decide) (by simp)).mono ?_;rintro e w3 ⟨rfl,hp3⟩;replace hp3:=iD hp3;clear hadd;go_wp2_with fail;refine⟨⟨(i+1),j,Xc l 2 [],by omega,by omega,by first | rfl | go_num,by first | rfl | go_num,⟨hp3.out,?_,?_⟩⟩,?_⟩
   ·have:=Z2b hbd.out 2 [] (by simp);exact⟨by have:=this.1;omega,fun e he=>by have:=this.2 e he;omega⟩
   ·exact⟨f,by rw[<-hn.out,<-hm.out];omega,hfold.out⟩
   ·simp[intOf];omega
 ·obtain rfl:i=n:=by omega
  by_cases hjm:j<m
  ·skip
   obtain⟨f,rfl⟩:∃ g,f=g+1:=⟨f - 1,by omega⟩;have hjb:j<b.length:=by rw[<-hm.out];exact hjm
   have hdb:b.drop j=b[j] :: b.drop (j+1):=lF hjb;have hda:a.drop i=[]:=lD (by rw[<-hn.out];exact lA _);have hex:(⟨b.toArray⟩:ByteArray).extract j (j+1)=⟨[b[j]].toArray⟩:=by
    apply nD;simp[ByteArray.data_extract];rw[hdb];rfl
   rw[hda,hdb,X3,Z2c] at hfold;replace hfold:=iD hfold;replace hda:=iD hda;have dI:decide ((i:Int)<(i:Int))=false:=decide_eq_false (by omega);have dJ:decide ((j:Int)<(m:Int))=true:=decide_eq_true (by omega);have i1:(0:Int)<=(j:Int):=by omega
   have i2:(j:Int)<(m:Int):=by omega
   clear hM hdb;go_wp2_with fail;go_quiet (fail);go_wp2_with fail;go_quiet (fail);go_wp2_with fail;refine (hadd.out _ 3 [b[j]] (by decide) (by simp)).mono ?_;rintro e w3 ⟨rfl,hp3⟩;replace hp3:=iD hp3;clear hadd;go_wp2_with fail;refine⟨⟨i,(j+1),Xc l 3 [b[j]],by omega,by omega,by first | rfl | go_num,by first | rfl | go_num,⟨hp3.out,?_,?_⟩⟩,?_⟩
   ·have:=Z2b hbd.out 3 [b[j]] (by simp);exact⟨by have:=this.1;omega,fun e he=>by have:=this.2 e he;omega⟩
   ·exact⟨f,by rw[<-hn.out,<-hm.out];omega,by rw[hda.out];exact hfold.out⟩
   ·simp[intOf];omega
  ·obtain rfl:j=m:=by omega
   rw[lD (by rw[<-hn.out];exact lA _),lD (by rw[<-hm.out];exact lA _),Znj] at hfold;have hfold':l=Kt a b:=hfold;obtain⟨V,hV,hrow⟩:=hM.st.row;have hbel:=iD hM.st.below;have cV:wr.cell? ⟨lb,0,none⟩=some V:=hV.cell 0;rw[hfold'] at hrow;replace hrow:=iD hrow;replace hfold':=iD hfold';have dn:decide ((i:Int)<(i:Int))=false:=decide_eq_false (by omega);have dm:decide ((j:Int)<(j:Int))=false:=decide_eq_false (by omega);clear hadd hM hV hfold;go_wp2_with fail;go_returns;have h1:=hb0.out.size;have h2:=hbel.out;have h3:=hlb.out;exact⟨V,rfl,own_lower' hrow.out (by omega),hb0.out.trans (h2.mono (by omega))⟩
end
end Go.Proofs.YtfdimggmljkkbaaGreatDoor
