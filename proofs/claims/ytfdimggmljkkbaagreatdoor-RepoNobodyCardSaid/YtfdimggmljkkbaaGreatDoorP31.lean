import Derived.Test.YtfdimggmljkkbaaGreatDoorP24
import Derived.LaidEqlPtr
open Array renaming getElem?_eq_some_iff → l4
open Go renaming wpQuiet_nil → lB, run_underlying → l6, grownBy_putObj' → l8
open Go.Instr renaming sameBits → lF, mapUpdate → l5, build → nK, buildSlice → nM
open Go.MapKept renaming run_getObj_map → nH, run_setObj_map → nI
open Go.Obj renaming cells → lQ
open Go.Proofs.Tryz renaming prog → lC
open Go.Region renaming wanted → nP
open Go.Result renaming andThen → nJ
open Go.RowKit.Below renaming refl → lM
open Go.Value renaming slice → lD, oneCell' → nO
open Go.World renaming alloc → lN, setRow → nQ
open Iff renaming rfl → l7
open List renaming mem_cons → lE, take_succ_cons → lI, take_zero → lJ, drop_succ_cons → lK, drop_zero → lL, length_cons → lO, length_map → lP, take_succ_eq_append_getElem → lS, mem_append → lT, cons_append → lU, getElem?_eq_getElem → lV, take_append_drop → lW, getElem_mem → lX, mem_map → lY, map_cons → lZ, map_nil → l0, mem_cons_of_mem → l1, length_nil → l2, length_append → l3, getElem?_take_of_lt → l9, length_filter_le → nA, nil_append → nC, drop_eq_getElem_cons → nE, length_take_of_le → nF, mem_append_left → nG, length_eq_zero_iff → nL, getElem?_eq_some_iff → nN
open Nat renaming le_refl → lA, le_trans → lG, zero_le → lR, reduceAdd → nB
open Option renaming mem_toList → lH
open Option.some renaming inj → nD
namespace Go.Proofs.YtfdimggmljkkbaaGreatDoor
section
set_option maxRecDepth 100000
set_option maxHeartbeats 8000000
open Go.Lib renaming hid → iD
open Go.Proofs.Tryz
open Go.RowKit Go.Shelf
attribute [local go_sem] Oper.semAt_some
theorem Znd(tb:Nat)(w:World):Calls lC 87 #[.pointer (some ⟨tb,0,none⟩)] w fun e w'=>e=.returned (.func (.func 161) #[] #[.pointer (some ⟨w.heap.size,0,none⟩)])/\Blk w' w.heap.size 72 [.pointer (some ⟨tb,0,none⟩)]/\Below w.heap.size w w':=by
 have hmf:∀ (fn:Fn) (first cap:Array Value) (w:World),(Instr.makeFunc fn first cap).run lC w=.ok (.func fn first cap) w:=fun _ _ _ _=>rfl;go_enter func87,ntmps87;go_wp2_with fail;go_returns;exact⟨rfl,Blk.new_at (cs:=[.pointer (some ⟨tb,0,none⟩)]) rfl,by go_grown⟩
def Z47(T:FT)(k:Nat):PRef × UInt8:=(Ya T k,((T.nodes[k]?).map (·.b)).getD 0)
def X6(T:FT):List (PRef × UInt8):=(Y2 T).map (Z47 T)
def Zda(x:PRef × UInt8)(vs:Array Value)(_:World):Prop:=vs=#[Zl x.1,B x.2]
def Zdb(A B:World):Prop:=Below A.heap.size A B
def Q4(A B:World):Prop:=∀ g t cs,Blk A g t cs->(t=233 ∨ t=235)->Blk B g t cs
theorem Q4.trans{A B C:World}(h:Q4 A B)(k:Q4 B C):Q4 A C:=fun g t cs hB ht=>k g t cs (h g t cs hB ht) ht
theorem Q4.below{A B:World}(h:Below A.heap.size A B):Q4 A B:=fun _ _ _ hB _=>hB.below h hB.lt
theorem Zne{w:World}{base:Nat}{v:Value}{ns:List Nat}(h:w.ownsRow base 233 1 v ns.length (Y5 ns)) :
  ∃ A cap,v=.slice A ns.length cap/\∀ i (hi:i<ns.length),∃ g cur,A=some ⟨g,0,none⟩/\Blk w g 233 cur/\cur[i]?=some (ndP ns[i]):=by
 by_cases h0:0<ns.length
 ·obtain⟨g,cap,cur,rfl,_,hB,_,_,_,ht⟩:=Z6m h h0;refine⟨_,cap,rfl,fun i hi=>⟨g,cur,rfl,hB,?_⟩⟩;have h1:(cur.take ns.length)[i]?=cur[i]?:=l9 hi;rw[<-h1,ht];simp[Y5,hi]
 ·obtain⟨A,cap,hv,_,_⟩:=Z6 h;exact⟨A,cap,hv,fun i hi=>by omega⟩
theorem Znf(T:FT)(hTk:FTok T)(hnl:T.nodes.length<=400001)(base tb mb ab:Nat)(ps:Nat->Nat)(V:Nat->Bool->Value)(bx:Nat)(w:World)(hT:TreeM w base tb mb ab ps V T)(hX:Blk w bx 72 [.pointer (some ⟨tb,0,none⟩)]) :
  Yields 161 #[.pointer (some ⟨bx,0,none⟩)] Zda (X6 T) Zdb Q4 w:=by
 intro l J W hb hJ hY h0;have hT1:=hT.calm hb;have hX1:=hX.below hb hX.lt;clear hT hX hb;have hcall:=iD (Z6t T hTk base tb mb ab ps V W hT1 hnl);have cX:W.cell? ⟨bx,0,none⟩=some (.pointer (some ⟨tb,0,none⟩)):=hX1.cell 0;have hlen:(Y2 T).length<=400001:=by
  have h1:=Z1x hTk T.nodes.length 0;have h2:(Y2 T).length<=(Zr T.nodes T.nodes.length 0).length:=nA _ _;omega
 replace hJ:=iD hJ;replace hY:=iD hY;replace h0:=iD h0;replace hT1:=iD hT1;clear hX1;refine callsIn_of_wp func161 rfl trivial ?_ rfl;simp only[ntmps161,List.size_toArray,lO,l2,nB,Nat.reduceSub,Array.replicate_succ,Array.replicate_zero,List.push_toArray,List.append_toArray,nC,lU];refine wpIn_wide.2 ?_;go_wp2_with fail;refine hcall.out.mono ?_;rintro e W2 ⟨LV,rfl,hLo,hb2⟩;rw[<-lP (f:=ps)] at hLo;obtain⟨LA,lc,rfl,hLc⟩:=Zne hLo;rw[lP];have hT2:=hT1.out.calm hb2;have hJ2:=hJ.out _ _ _ h0.out hb2;obtain⟨n,hn⟩:∃ n,n=(Y2 T).length:=⟨_,rfl⟩;rw[<-hn];have hitem:Hid (∀ m,m<n->∃ (lg:Nat) (cur:List Value) (k:Nat) (nd:FN),LA=some ⟨lg,0,none⟩/\Blk W2 lg 233 cur/\cur[m]?=some (ndP (ps k))/\Blk W2 (ps k) 235 (Zf nd.name nd.b nd.gone (V k true) (V k false))/\nd.name.com.length=32/\∃ r,X6 T=(X6 T).take m++(nd.name,nd.b) :: r):=iD (fun m hm=>by
  have hm':m<(Y2 T).length:=by omega
  obtain⟨lg,cur,e1,e2,e3⟩:=hLc m (by simpa using hm');obtain⟨nd,hnd,_⟩:=Z6u hTk hm';refine⟨lg,cur,(Y2 T)[m],nd,e1,e2,by rw[e3,List.getElem_map],hT2.node _ nd hnd,(hTk.com hnd).1,(X6 T).drop (m+1),?_⟩;have h1:m<(X6 T).length:=by unfold X6;simpa using hm'
  have h2':(X6 T)[m]?=some (nd.name,nd.b):=by
   unfold X6;rw[List.getElem?_map,lV hm'];simp[Z47,Ya,hnd]
  have h2:(X6 T)[m]=(nd.name,nd.b):=by
   rw[lV h1] at h2';exact nD h2'
  rw[<-h2,<-nE h1,lW])
 have hil:(X6 T).length=n:=by unfold X6;simp[hn]
 have hnb:n<=400001:=by omega
 replace hn:=iD hn;replace hil:=iD hil;replace hJ2:=iD hJ2;clear hLo hLc hT2 hcall cX;go_wp2_with fail;refine (wpIn_wide (n:=0 - 1)).1 ?_
 gi_loopw [8] (fun i wr=>∃ m:Nat,m<=n/\i=.int .i64 (m:Int)/\Q4 W2 wr/\J ((X6 T).take m) wr) (fun i _=>n - (intOf i).toNat)
 case atStart=>exact⟨0,lR _,rfl,fun _ _ _ hB _=>hB,by simpa using hJ2.out⟩
 case round =>
  obtain⟨m,hm,rfl,hk,hj⟩:=hrel;by_cases hlt:m<n
  ·obtain⟨lg,cur,k,nd,rfl,hR,hcm,hN,hcom,r,hr⟩:=hitem.out m hlt;have hR2:=hk _ _ _ hR (.inl rfl);have hN2:=hk _ _ _ hN (.inr rfl);have cR:wr.cell? ⟨lg,m,none⟩=some (ndP (ps k)):=(hR2.cell m).trans hcm;have cB:wr.cell? ⟨ps k,34,none⟩=some (B nd.b):=(hN2.cell 34).trans (Z6w hcom _ _ _ _);have i1:(0:Int)<=(m:Int):=by omega
   have i2:(m:Int)<(n:Int):=by omega
   have hYY:∀ nq,YieldAt Fence.wide (0 - 1 - 1) lC l #[.agg (Z1 nd.name).toArray,B nd.b] (wr.drewN nq) fun e B=>e=.returned (.bool true)/\J ((X6 T).take m++[(nd.name,nd.b)]) B/\Q4 (wr.drewN nq) B:=fun nq =>
    hY.out ((X6 T).take m) (nd.name,nd.b) r _ _ (hJ.out _ _ _ hj ((Touch.drewN (L:=[]) nq).below (lA _) (fun _ hi=>by cases hi))) hr rfl
   have hN3:Hid (∀ w',(∃ n,w'=wr.drewN n)->Blk w' (ps k) 235 (Zf nd.name nd.b nd.gone (V k true) (V k false))):=iD (by rintro _ ⟨n,rfl⟩;exact hN2.drewN n);have hnext:Hid ((X6 T).take (m+1)=(X6 T).take m++[(nd.name,nd.b)]):=iD (by
    have h1:m<(X6 T).length:=by rw[hil.out];exact hlt
    rw[lS h1]
    congr 2
    have h2:(X6 T)[m]?=((X6 T).take m++(nd.name,nd.b) :: r)[m]?:=by rw[<-hr]
    rw[List.getElem?_append_right (by rw[List.length_take];omega),nF (by omega),Nat.sub_self,lV h1] at h2;simpa using h2)
   replace hYY:=iD hYY;have hk':=iD hk;clear hj hr hR hN hR2 hN2 hk
   gi_wp2
   refine Zkl 9 (by kernel_rfl) (by kernel_rfl) ?_;simp only[lI,lJ,lK,lL];repeat (first
    | go_big_quiet_step (fail)
    | (refine Yf 158 (.tmp 15) rfl rfl (ps k) 0 rfl 235 (Zf nd.name nd.b nd.gone (V k true) (V k false)) (Z1 nd.name) [B nd.b,.bool nd.gone,V k true,V k false] hN3.out rfl _ underlying158 rfl (Xe hcom) ?_;go_frame))
   refine lB ?_;rintro _ ⟨nq,rfl⟩;obtain⟨fn,tmps,assign,body,hy,hR⟩:=hYY.out nq;have hk3:Q4 W2 (wr.drewN nq):=hk'.out.trans (Q4.below ((Touch.drewN (L:=[]) nq).below (lA _) (fun _ hi=>by cases hi)));clear hYY hN3 cR cB hk';generalize wr.drewN nq=w3 at hy hR hk3 ⊢;replace hk3:=iD hk3
   gi_wp2
   refine⟨rfl,hR.mono ?_⟩;rintro e W3 ⟨rfl,hJ3,hk4⟩;have hk5:=iD (hk3.out.trans hk4);clear hy hR hk4;replace hJ3:=iD hJ3
   gi_wp2
   go_roundw
   case rel=>exact⟨m+1,by omega,by simp,hk5.out,by rw[hnext.out];exact hJ3.out⟩
   case measure=>simp[intOf];omega
  ·obtain rfl:m=n:=by omega
   replace hj:=iD hj
   gi_wp2
   go_end0;refine⟨⟨_,rfl⟩,?_⟩;have h9:=hj.out;rw[List.take_of_length_le (by rw[hil.out];exact lA _)] at h9;exact h9
end
section
open Go.RowKit
def Oz(T:FT)(s:Mk)(e:PEd):Mk:=if e.kind=1 then { s with at_:=s.at_+e.n,kept:=s.at_+e.n } else if e.kind=2 then Yo s e.n else Kr s (Kn T s.kept) e.text e.text.length
def mk0(T:FT):Mk:=⟨(X6 T).map (·.1),0,0,[]⟩
def K1(T:FT)(l:List PEd)(m:Nat):Mk:=(l.take m).foldl (Oz T) (mk0 T)
def Vm(T:FT)(tx:Str):List POp:=((Kt (Xw T) tx).foldl (Oz T) (mk0 T)).ops
theorem Z79(T:FT){l:List PEd}{m:Nat}(h:m<l.length):K1 T l (m+1)=Oz T (K1 T l m) l[m]:=by
 unfold K1;rw[lS h,List.foldl_append];rfl
theorem Z7a(T:FT)(tx:Str):(K1 T (Kt (Xw T) tx) (Kt (Xw T) tx).length).ops=Vm T tx:=by
 unfold K1 Vm;rw[List.take_length]
def edA:List PEd->Nat
 | []=>0
 | e :: l=>(if e.kind=3 then 0 else e.n)+edA l
def edB:List PEd->Nat
 | []=>0
 | e :: l=>(if e.kind=3 then e.text.length else 0)+edB l
def edK(l:List PEd):Prop:=∀ e ∈ l,e.kind=1 ∨ e.kind=2 ∨ e.kind=3
theorem G0:∀ (a b:List PEd),edA (a++b)=edA a+edA b
 | [],b=>by simp[edA]
 | e :: a,b=>by
  simp only[lU,edA,G0 a b];omega
theorem G1:∀ (a b:List PEd),edB (a++b)=edB a+edB b
 | [],b=>by simp[edB]
 | e :: a,b=>by
  simp only[lU,edB,G1 a b];omega
theorem Znl(l:List PEd)(k:Int)(s:Str)(hk:k=1 ∨ k=2 ∨ k=3)(hl:edK l)(hs:k=3->s.length=1):edA (Xc l k s)=edA l+(if k=3 then 0 else 1)/\edB (Xc l k s)=edB l+(if k=3 then 1 else 0)/\edK (Xc l k s):=by
 unfold Xc;cases hg:l.getLast? with
 | none =>
  have hn:l=[]:=by simpa using hg
  subst hn;dsimp only;by_cases h3:k=3
  ·have:=hs h3;subst h3;refine⟨by simp[edA],by simp[edB,this],?_⟩;intro e he;simp at he;simp[he]
  ·refine⟨by simp[edA,h3],by simp[edB,h3],?_⟩;intro e he;simp[h3] at he;subst he;exact hk
 | some e =>
  dsimp only;obtain⟨ys,hys⟩:=List.getLast?_eq_some_iff.1 hg;have hdl:l.dropLast=ys:=by rw[hys];simp
  have hA:edA l=edA l.dropLast+(if e.kind=3 then 0 else e.n):=by
   rw[hdl,hys,G0];simp[edA]
  have hB:edB l=edB l.dropLast+(if e.kind=3 then e.text.length else 0):=by
   rw[hdl,hys,G1];simp[edB]
  have hKd:edK l.dropLast:=fun x hx=>hl x (by rw[hdl] at hx;rw[hys];exact nG _ hx);by_cases hke:e.kind=k
  ·rw[if_pos hke];by_cases h3:k=3
   ·have:=hs h3;subst h3;rw[G0,G1];rw[if_pos hke] at hA hB;refine⟨by simp[edA,hke];omega,by simp[edB,hke];omega,?_⟩;intro x hx;rcases lT.1 hx with hx | hx
    ·exact hKd x hx
    ·simp at hx;subst hx;exact .inr (.inr hke)
   ·have hk3:¬ e.kind=3:=by rw[hke];exact h3
    rw[G0,G1];rw[if_neg hk3] at hA hB;refine⟨by simp[edA,h3,hk3];omega,by simp[edB,h3,hk3];omega,?_⟩;intro x hx;rcases lT.1 hx with hx | hx
    ·exact hKd x hx
    ·simp[h3] at hx;subst hx;show e.kind=1 ∨ e.kind=2 ∨ e.kind=3;rw[hke];exact hk
  ·rw[if_neg hke,G0,G1];by_cases h3:k=3
   ·have:=hs h3;subst h3;refine⟨by simp[edA],by simp[edB,this],?_⟩;intro x hx;rcases lT.1 hx with hx | hx
    ·exact hl x hx
    ·simp at hx;simp[hx]
   ·refine⟨by simp[edA,h3],by simp[edB,h3],?_⟩;intro x hx;rcases lT.1 hx with hx | hx
    ·exact hl x hx
    ·simp[h3] at hx;subst hx;exact hk
def stA:List (Int × Str)->Nat
 | []=>0
 | s :: st=>(if s.1=3 then 0 else 1)+stA st
def stB:List (Int × Str)->Nat
 | []=>0
 | s :: st=>(if s.1=3 then 1 else 0)+stB st
theorem Gn:∀ (f:Nat) (a b:Str),stA (X3 f a b)<=a.length/\stB (X3 f a b)<=b.length/\∀ s ∈ X3 f a b,(s.1=1 ∨ s.1=2 ∨ s.1=3)/\(s.1=3->s.2.length=1)
 | 0,a,b=>by simp[X3,stA,stB]
 | f+1,[],[]=>by simp[X3,stA,stB]
 | f+1,x :: a,[]=>by
  obtain⟨h1,h2,h3⟩:=Gn f a [];rw[X3];refine⟨by simp[stA];omega,by simp[stB];simpa using h2,?_⟩;intro s hs;rcases lE.1 hs with rfl | hs
  ·simp
  ·exact h3 s hs
 | f+1,[],y :: b=>by
  obtain⟨h1,h2,h3⟩:=Gn f [] b;rw[X3];refine⟨by simp[stA];simpa using h1,by simp[stB];omega,?_⟩;intro s hs;rcases lE.1 hs with rfl | hs
  ·simp
  ·exact h3 s hs
 | f+1,x :: a,y :: b=>by
  rw[X3];split
  ·obtain⟨h1,h2,h3⟩:=Gn f a b;refine⟨by simp[stA];omega,by simp[stB];omega,?_⟩;intro s hs;rcases lE.1 hs with rfl | hs
   ·simp
   ·exact h3 s hs
  ·split
   ·obtain⟨h1,h2,h3⟩:=Gn f a (y :: b);refine⟨by simp[stA];omega,by simp only[stB];simpa using h2,?_⟩;intro s hs;rcases lE.1 hs with rfl | hs
    ·simp
    ·exact h3 s hs
   ·obtain⟨h1,h2,h3⟩:=Gn f (x :: a) b;refine⟨by simp only[stA];simpa using h1,by simp[stB];omega,?_⟩;intro s hs;rcases lE.1 hs with rfl | hs
    ·simp
    ·exact h3 s hs
theorem Zdc:∀ (st:List (Int × Str)) (l:List PEd),edK l->(∀ s ∈ st,(s.1=1 ∨ s.1=2 ∨ s.1=3)/\(s.1=3->s.2.length=1))->edA (Qe l st)=edA l+stA st/\edB (Qe l st)=edB l+stB st/\edK (Qe l st)
 | [],l,hl,_=>⟨rfl,rfl,hl⟩
 | s :: st,l,hl,hst=>by
  obtain⟨h1,h2⟩:=hst s (by simp);obtain⟨a1,a2,a3⟩:=Znl l s.1 s.2 h1 hl h2;obtain⟨b1,b2,b3⟩:=Zdc st (Xc l s.1 s.2) a3 (fun x hx=>hst x (by simp[hx]));have e:Qe l (s :: st)=Qe (Xc l s.1 s.2) st:=rfl;rw[e];refine⟨?_,?_,b3⟩
  ·rw[b1,a1];simp only[stA];omega
  ·rw[b2,a2];simp only[stB];omega
theorem Z7b(a b:Str):edA (Kt a b)<=a.length/\edB (Kt a b)<=b.length/\edK (Kt a b):=by
 obtain⟨h1,h2,h3⟩:=Gn (a.length+b.length) a b;obtain⟨g1,g2,g3⟩:=Zdc (X3 (a.length+b.length) a b) [] (fun e he=>by simp at he) h3;unfold Kt;exact⟨by rw[g1];simp only[edA];omega,by rw[g2];simp only[edB];omega,g3⟩
theorem Znm(l:List PEd)(k:Int)(s:Str):(Xc l k s).length<=l.length+1:=by
 unfold Xc;cases hg:l.getLast? with
 | none=>simp
 | some e =>
  dsimp only;split
  ·rw[l3,List.length_dropLast,List.length_singleton];omega
  ·simp
theorem Zdd:∀ st:List (Int × Str),st.length=stA st+stB st
 | []=>rfl
 | s :: st=>by
  have:=Zdd st;simp only[lO,stA,stB];split <;> omega
theorem Zde:∀ (st:List (Int × Str)) (l:List PEd),(Qe l st).length<=l.length+st.length
 | [],l=>by simp[Qe]
 | s :: st,l=>by
  have h1:=Zde st (Xc l s.1 s.2);have h2:=Znm l s.1 s.2;have e:Qe l (s :: st)=Qe (Xc l s.1 s.2) st:=rfl;rw[e,lO];omega
theorem Znn(a b:Str):(Kt a b).length<=a.length+b.length:=by
 have h1:=Zde (X3 (a.length+b.length) a b) [];have h2:=Zdd (X3 (a.length+b.length) a b);obtain⟨h3,h4,_⟩:=Gn (a.length+b.length) a b;unfold Kt;rw[l2] at h1;omega
structure MkOk (T:FT) (l:List PEd) (m:Nat):Prop where
 refs:(K1 T l m).refs=(X6 T).map (·.1)
 at_:(K1 T l m).at_=edA (l.take m)
 kept:(K1 T l m).kept<=(K1 T l m).at_
 ops:(K1 T l m).ops.length<=edA (l.take m)+edB (l.take m)
theorem Z48(T:FT)(l:List PEd)(hl:edK l):∀ m,m<=l.length->MkOk T l m
 | 0,_=>⟨rfl,rfl,lA _,lR _⟩
 | m+1,hm=>by
  have h:=Z48 T l hl m (by omega);have hlt:m<l.length:=by omega
  have ht:l.take (m+1)=l.take m++[l[m]]:=lS hlt;have hA:edA (l.take (m+1))=edA (l.take m)+(if l[m].kind=3 then 0 else l[m].n):=by rw[ht,G0];simp[edA]
  have hB:edB (l.take (m+1))=edB (l.take m)+(if l[m].kind=3 then l[m].text.length else 0):=by rw[ht,G1];simp[edB]
  have h1:=h.refs;have h2:=h.at_;have h3:=h.kept;have h4:=h.ops;have hk:=hl l[m] (lX hlt);have hs:=Z79 T hlt;unfold Oz at hs;rcases hk with hk | hk | hk
  ·rw[if_pos hk] at hs;rw[hk] at hA hB;simp at hA hB;refine⟨by rw[hs];exact h1,by rw[hs,hA];simp[h2],by rw[hs];exact lA _,by rw[hs,hA,hB];simp;omega⟩
  ·rw[if_neg (by rw[hk];decide),if_pos hk] at hs;rw[hk] at hA hB;simp at hA hB;refine⟨by rw[hs];exact h1,by rw[hs,hA];simp[Yo,h2],by rw[hs];simp[Yo];omega,?_⟩;rw[hs,hA,hB];unfold Yo;simp;omega
  ·rw[if_neg (by rw[hk];decide),if_neg (by rw[hk];decide)] at hs;rw[hk] at hA hB;simp at hA hB;refine⟨by rw[hs];exact h1,by rw[hs,hA];simp[Kr,h2],by rw[hs];simp[Kr];omega,?_⟩;rw[hs,Z6x _ _ (lA _),hA,hB];omega
theorem Zno(l:List PEd)(m:Nat):edA (l.take m)<=edA l:=by
 conv=>rhs;rw[<-lW m l]
 rw[G0];omega
theorem Znp(l:List PEd)(m:Nat):edB (l.take m)<=edB l:=by
 conv=>rhs;rw[<-lW m l]
 rw[G1];omega
end
section
set_option maxRecDepth 100000
set_option maxHeartbeats 16000000
open Go.Lib renaming hid → iD
open Go.Proofs.Tryz
open Go.RowKit
open Go.Maps Go.MapKept Go.ChangeMaps
def Xn(w:World)(b:Nat)(ok:Value->Prop):Prop:=∃ xs clock,w.heap[b]?=some (.map xs clock)/\∀ x ∈ xs.toList,ok x.key
theorem Xn.lt{w:World}{b:Nat}{ok:Value->Prop}(h:Xn w b ok):b<w.heap.size:=by
 obtain⟨xs,c,h1,_⟩:=h;exact (l4.1 h1).1
theorem Xn.block{w w':World}{b:Nat}{ok:Value->Prop}(h:Xn w b ok)(hb:w'.heap[b]?=w.heap[b]?):Xn w' b ok:=by
 obtain⟨xs,c,h1,h2⟩:=h;exact⟨xs,c,by rw[hb,h1],h2⟩
theorem Xn.below{w w':World}{b B:Nat}{ok:Value->Prop}(h:Xn w b ok)(hb:Below B w w')(hl:b<B):Xn w' b ok:=h.block (hb.block _ hl)
theorem Xn.touch{L:List Nat}{w w':World}{b:Nat}{ok:Value->Prop}(h:Xn w b ok)(ht:Touch L w w')(hn:b ∉ L):Xn w' b ok:=h.block (ht.block _ h.lt hn)
theorem Xn.ne_blk{w:World}{b g:Nat}{ok:Value->Prop}{t:TypeId}{cs:List Value}(h:Xn w b ok)(hB:Blk w g t cs):g ≠ b:=fun e=>by
 obtain⟨xs,c,h1,_⟩:=h;rw[e] at hB;have:=hB.symm.trans h1
 injection this with this
 cases this
theorem Xn.of{w:World}{b:Nat}{es:List (Value × Value)}{ok:Value->Prop}(h:Zg w b es)(hk:∀ q ∈ es,ok q.1):Xn w b ok:=by
 obtain⟨xs,c,h1,h2⟩:=h;exact⟨xs,c,h1,Z16 h2 hk⟩
theorem Xn.store{P:Program}{w:World}{t k e:TypeId}{b:Nat}{ok:Value->Prop}{key:Value}(h:Xn w b ok)(K:KeyOk P k ok)(hsame:lF 10000 key key=true)(ht:P.underlying t=some (.map k e))(hk:ok key)(v:Value) :
  ∃ w',(l5 t (.map (some b)) key v).run P w=.ok () w'/\Xn w' b ok/\w.mapTurned w' b:=by
 obtain⟨xs,clock,hb,hall⟩:=h;obtain⟨hl,_⟩:=l4.1 hb;rcases K.find w key hk xs.toList hall with ⟨h1,_⟩ | ⟨j,x,h1,h3,h4⟩
 ·refine⟨setBlock w b (.map (xs.push ⟨key,v,clock⟩) (clock+1)),?_,⟨xs.push ⟨key,v,clock⟩,clock+1,?_,?_⟩,⟨xs,clock,_,_,hb,rfl⟩⟩
  ·simp[l5,l6 ht,nH hb,K.check w false key hk,h1,nI _ hb,nJ,setBlock]
  ·simp[setBlock,hl]
  ·intro y hy;simp at hy;rcases hy with hy | rfl
   ·exact hall y (by simpa using hy)
   ·exact hk
 ·have hx:xs[j]?=some x:=by simpa using h3
  have hst:(Instr.keyThatStays key key).run P w=.ok key w:=by simp[Instr.keyThatStays,hsame]
  refine⟨setBlock w b (.map (xs.modify j fun e=>{ e with key,val:=v }) clock),?_,⟨xs.modify j fun e=>{ e with key,val:=v },clock,?_,?_⟩,⟨xs,clock,_,_,hb,rfl⟩⟩
  ·simp[l5,l6 ht,nH hb,K.check w false key hk,h1,hx,h4,hst,nI _ hb,nJ,setBlock]
  ·simp[setBlock,hl]
  ·intro y hy;have hy':y ∈ (xs.modify j fun e=>{ e with key,val:=v }):=by first | exact Array.mem_toList_iff.1 hy | exact Array.mem_def.2 hy | exact⟨hy⟩
   obtain⟨i,hi,he⟩:=Array.getElem_of_mem hy';have h5:(xs.modify j fun e=>{ e with key,val:=v })[i]?=some y:=l4.2 ⟨hi,he⟩;rw[Array.getElem?_modify] at h5;split at h5
   ·cases hq:xs[i]? with
    | none=>rw[hq] at h5;cases h5
    | some z =>
     rw[hq] at h5;obtain rfl:=nD h5;exact hk
   ·exact hall y (by
     have:=Array.mem_of_getElem? h5;simpa using this)
theorem Zdf{l:List Value}(h:∀ v ∈ l,lF 9999 v v=true):lF 10000 (.agg l.toArray) (.agg l.toArray)=true:=by
 show lF (9999+1) _ _=true;simp only[lF,beq_self_eq_true,Bool.true_and,List.all_eq_true];intro p hp;have e:p.1=p.2/\p.1 ∈ l:=by
  obtain⟨i,hi,e⟩:=List.getElem_of_mem hp;rw[List.getElem_zip] at e;rw[<-e];exact⟨rfl,lX _⟩
 obtain⟨p1,p2⟩:=p;dsimp only at e;obtain⟨rfl,hm⟩:=e;exact h _ hm
theorem Znq(r:PRef):lF 10000 (Zl r) (Zl r)=true:=by
 unfold Zl;refine Zdf (fun v hv=>?_);simp[Z1] at hv;rcases hv with rfl | ⟨a,_,rfl⟩ | rfl <;> simp[lF]
theorem Znr(d:Str):lF 10000 (.agg (d.map B).toArray) (.agg (d.map B).toArray)=true:=by
 refine Zdf (fun v hv=>?_);obtain⟨a,_,rfl⟩:=lY.1 hv;simp[lF]
theorem Zns{P:Program}(w:World){tp te:TypeId}{j:TypeInfo}{a b:Addr}{ca cb:Array Value}{ta tb:TypeId}(hp:P.underlying tp=some (.pointer te))(hte:P.info? te=some j)(hsz:j.size ≠ 0)
  (hne:a ≠ b) (ha:w.heap[a.block]?=some (.cells ca ta (0,0))) (hb:w.heap[b.block]?=some (.cells cb tb (0,0))) :
  (binOp .neq tp (.pointer (some a)) (.pointer (some b))).run P w=.ok (.bool true) w:=by
 have h:∀ d:Nat,(Op.equalIn (d+1) tp (.pointer (some a)) (.pointer (some b))).run P w=.ok false w:=fun d=>by
  simp[Op.equalIn,l6 hp,sizeOf,typeInfo,hte,hsz,run_sameAddr_other w hne ha hb]
 simp only[binOp];simp[Op.equal,Op.maxDepth,h 9999]
theorem Znt:∃ j,lC.info? 235=some j/\j.size ≠ 0:=by
 have h:=Zfz;cases hq:lC.info? 235 with
 | none=>simp[hq] at h
 | some j =>
  rw[hq] at h;have : j.size=38:=by simpa using h
  exact⟨j,rfl,by omega⟩
theorem Znu(r:PRef)(b:UInt8)(g:Bool)(hr:r.com.length=32)(w:World):(nK 235 #[(0,.agg (Z1 r).toArray),(1,B b),(2,.bool g)]).run lC w=.ok (.agg (Zf r b g Z2 Z2).toArray) w:=by
 obtain⟨o,d,n⟩:=r;dsimp only at hr
 iterate 32 (rcases d with _ | ⟨_,d⟩;· (exfalso;simp at hr;done))
 obtain rfl:d=[]:=by
  simp only[lO] at hr;exact nL.1 (by omega)
 kernel_rfl
theorem Znv{P:Program}{w:World}{o:Oper}{a:Act}(t:TypeId)(i0 i1 i2:Nat)(x0 x1 x2:Operand)(ho:o.op=.build t #[(i0,x0),(i1,x1),(i2,x2)])(V0 V1 V2 r:Value)(h0:a.eval x0=V0)(h1:a.eval x1=V1)(h2:a.eval x2=V2)
  (h:(nK t #[(i0,V0),(i1,V1),(i2,V2)]).run P w=.ok r w):(execOp a.eval o).run P w=.ok (.value r) w:=by
 simp only[execOp,ho,List.map_toArray,lZ,l0,h0,h1,h2,Sem.run_bind,h,Result.andThen_ok,Sem.run_pure]
theorem Zdg(b:Nat)(w:World):(nM 231 1 #[(0,ndP b)]).run lC w=.ok (.slice (some ⟨w.heap.size,0,none⟩) 1 1) (w.alloc (.cells #[ndP b] 233)):=by kernel_rfl
def Z0o(cc t1 t3:Nat):Value:=.func (.func 217) #[] #[.pointer (some ⟨cc,0,none⟩),.pointer (some ⟨t1,0,none⟩),.pointer (some ⟨t3,0,none⟩)]
structure CpSt (W0 W:World) (tb cc t1 t3 tc nc mc ac:Nat):Prop where
 below:Below W0.heap.size W0 W
 lo:W0.heap.size<=cc/\W0.heap.size<=t1/\W0.heap.size<=t3/\W0.heap.size<=tc/\W0.heap.size<=mc
 fc:Blk W cc 321 [Z0o cc t1 t3]
 f1:Blk W t1 72 [.pointer (some ⟨tb,0,none⟩)]
 f3:Blk W t3 72 [.pointer (some ⟨tc,0,none⟩)]
 tree:∃ s,Blk W tc 245 (Jl nc mc ac s)
 by_:Xn W mc Uh
section
variable {W0 W W':World} {tb cc t1 t3 tc nc mc ac:Nat}
theorem CpSt.le(h:CpSt W0 W tb cc t1 t3 tc nc mc ac):W0.heap.size<=W.heap.size:=h.below.size
theorem CpSt.by(h:CpSt W0 W tb cc t1 t3 tc nc mc ac){L:List Nat}(ht:Touch L W W')(hL:∀ i ∈ L,W0.heap.size<=i/\((∃ cs,Blk W i 233 cs) ∨ ∃ cs,Blk W i 235 cs)):CpSt W0 W' tb cc t1 t3 tc nc mc ac:=by
 obtain⟨s,hs⟩:=h.tree;have key:∀ {g:Nat} {t:TypeId} {cs:List Value},Blk W g t cs->t ≠ 233->t ≠ 235->g ∉ L:=fun {g t cs} hB h1 h2 hm=>by
  rcases (hL g hm).2 with ⟨cs',hB'⟩ | ⟨cs',hB'⟩
  ·exact hB.ne_ hB' h1 rfl
  ·exact hB.ne_ hB' h2 rfl
 refine⟨h.below.trans (ht.below h.le (fun i hi=>(hL i hi).1)),h.lo,h.fc.touch ht (key h.fc (by decide) (by decide)),h.f1.touch ht (key h.f1 (by decide) (by decide)),h.f3.touch ht (key h.f3 (by decide) (by decide)),⟨s,hs.touch ht (key hs (by decide) (by decide))⟩,h.by_.touch ht (fun hm=>?_)⟩;rcases (hL mc hm).2 with ⟨cs',hB'⟩ | ⟨cs',hB'⟩ <;> exact h.by_.ne_blk hB' rfl
theorem CpSt.calm(h:CpSt W0 W tb cc t1 t3 tc nc mc ac)(hb:Below W.heap.size W W'):CpSt W0 W' tb cc t1 t3 tc nc mc ac:=h.by (Touch.ofBelow (L:=[]) hb) (fun i hi=>by cases hi)
end
theorem Znw(T:FT)(hTk:FTok T)(hnl:T.nodes.length<=400001)(base tb mb ab:Nat)(ps:Nat->Nat)(V:Nat->Bool->Value)(W0:World)(hM:TreeM W0 base tb mb ab ps V T)(cc t1 t3 tc nc mc ac:Nat):∀ (f k:Nat) (nd:FN) (W:World),
  T.nodes[k]?=some nd->T.nodes.length<=k+f->CpSt W0 W tb cc t1 t3 tc nc mc ac ->
  Calls lC 217 #[.pointer (some ⟨ps k,0,none⟩),.pointer (some ⟨cc,0,none⟩),.pointer (some ⟨t1,0,none⟩),.pointer (some ⟨t3,0,none⟩)] W fun e W'=>∃ b,e=.returned (ndP b)/\CpSt W0 W' tb cc t1 t3 tc nc mc ac/\Touch [mc] W W':=by
 intro f;induction f with
 | zero =>
  intro k nd W hk hf;have:=(nN.1 hk).1;omega
 | succ f ih =>
  intro k nd W hk hf h;have hcom:=(hTk.com hk).1;have hkl:k<T.nodes.length:=(nN.1 hk).1;have hTW:=iD (fun (X:World) (hX:CpSt W0 X tb cc t1 t3 tc nc mc ac)=>(⟨hX.below.size,fun g hg=>hX.below.block g hg⟩:W0.heap.size<=X.heap.size/\∀ g,g<W0.heap.size->X.heap[g]?=W0.heap[g]?));have hn0:=hM.node k nd hk;have hr0:=hM.tree;obtain⟨r0,hr0n,_⟩:=hTk.root;have hroot:=hM.node 0 r0 hr0n;have hLr:=hM.row k nd true hk;have hRr:=hM.row k nd false hk;rw[<-lP (f:=ps)] at hLr hRr;obtain⟨LA,lc,hVl,hLc⟩:=Vi hLr;obtain⟨RA,rc,hVr,hRc⟩:=Vi hRr;rw[lP] at hVl hVr;rw[hVl,hVr] at hn0;have hcl:Hid (∀ X s i (hi:i<(Zd nd s).length),CpSt W0 X tb cc t1 t3 tc nc mc ac ->
    Calls lC 217 #[.pointer (some ⟨ps (Zd nd s)[i],0,none⟩),.pointer (some ⟨cc,0,none⟩),.pointer (some ⟨t1,0,none⟩),.pointer (some ⟨t3,0,none⟩)] X fun e W'=>∃ b,e=.returned (ndP b)/\CpSt W0 W' tb cc t1 t3 tc nc mc ac/\Touch [mc] X W'):=iD (fun X s i hi hX=>by
   have h1:=hTk.kids k nd s _ hk (lX hi);exact ih _ _ X (lV h1.2) (by omega) hX)
  obtain⟨L,hL⟩:∃ L,L=Zd nd true:=⟨_,rfl⟩;obtain⟨R,hR⟩:∃ R,R=Zd nd false:=⟨_,rfl⟩;have hcL:Hid (∀ X i (hi:i<L.length),CpSt W0 X tb cc t1 t3 tc nc mc ac ->
    Calls lC 217 #[.pointer (some ⟨ps L[i],0,none⟩),.pointer (some ⟨cc,0,none⟩),.pointer (some ⟨t1,0,none⟩),.pointer (some ⟨t3,0,none⟩)] X fun e W'=>∃ b,e=.returned (ndP b)/\CpSt W0 W' tb cc t1 t3 tc nc mc ac/\Touch [mc] X W'):=iD (by subst hL;exact fun X i hi=>hcl.out X true i hi)
  have hcR:Hid (∀ X i (hi:i<R.length),CpSt W0 X tb cc t1 t3 tc nc mc ac ->
    Calls lC 217 #[.pointer (some ⟨ps R[i],0,none⟩),.pointer (some ⟨cc,0,none⟩),.pointer (some ⟨t1,0,none⟩),.pointer (some ⟨t3,0,none⟩)] X fun e W'=>∃ b,e=.returned (ndP b)/\CpSt W0 W' tb cc t1 t3 tc nc mc ac/\Touch [mc] X W'):=iD (by subst hR;exact fun X i hi=>hcl.out X false i hi)
  have hLc':Hid (∀ i (hi:i<L.length),∃ g,LA=some ⟨g,0,none⟩/\g<W0.heap.size/\W0.cell? ⟨g,i,none⟩=some (ndP (ps L[i]))):=iD (by
   subst hL;intro i hi;obtain⟨g,e1,e2,e3⟩:=hLc i (by simpa using hi);exact⟨g,e1,e2,by rw[e3];simp⟩)
  have hRc':Hid (∀ i (hi:i<R.length),∃ g,RA=some ⟨g,0,none⟩/\g<W0.heap.size/\W0.cell? ⟨g,i,none⟩=some (ndP (ps R[i]))):=iD (by
   subst hR;intro i hi;obtain⟨g,e1,e2,e3⟩:=hRc i (by simpa using hi);exact⟨g,e1,e2,by rw[e3];simp⟩)
  rw[<-hL,<-hR] at hn0;have hLl:L.length<T.nodes.length:=by rw[hL];exact hTk.slen k nd true hk
  have hRl:R.length<T.nodes.length:=by rw[hR];exact hTk.slen k nd false hk
  have hpk:k ≠ 0->ps k ≠ ps 0:=fun h0 e=>h0 (hM.inj hTk hkl (by omega) e);obtain⟨jn,hjn,hjs⟩:=Znt;have hnode:Hid (∀ X,Below W0.heap.size W0 X->Blk X (ps k) 235 (Zf nd.name nd.b nd.gone (.slice LA L.length lc) (.slice RA R.length rc))/\X.cell? ⟨tb,0,none⟩=some (.pointer (some ⟨ps 0,0,none⟩))/\(k=0->(binOp .neq 233 (.pointer (some ⟨ps k,0,none⟩)) (.pointer (some ⟨ps 0,0,none⟩))).run lC X=.ok (.bool false) X)/\(k ≠ 0->(binOp .neq 233 (.pointer (some ⟨ps k,0,none⟩)) (.pointer (some ⟨ps 0,0,none⟩))).run lC X=.ok (.bool true) X)):=iD (fun X hX=>by
   refine⟨hn0.below hX hn0.lt,(hr0.below hX hr0.lt).cell 0,fun e=>?_,fun e=>?_⟩
   ·rw[e];exact Lib.run_neq_ptr_same (P:=lC) (w:=X) (tp:=233) (te:=235) ⟨ps 0,0,none⟩ underlying233 hjn
   ·exact Zns (P:=lC) X (tp:=233) (te:=235) underlying233 hjn hjs (fun e2=>hpk e (by injection e2)) (hn0.below hX hn0.lt) (hroot.below hX hroot.lt))
  obtain⟨d0,d1,d2,d3⟩:=hnode.out W h.below;have c34:W.cell? ⟨ps k,34,none⟩=some (B nd.b):=(d0.cell 34).trans (Z6w hcom _ _ _ _);have c35:W.cell? ⟨ps k,35,none⟩=some (.bool nd.gone):=(d0.cell 35).trans (by simp[Zf,Z1,hcom]);have hBn:Hid (∀ w',(∃ n,w'=W.drewN n)->Blk w' (ps k) 235 (Zf nd.name nd.b nd.gone (.slice LA L.length lc) (.slice RA R.length rc))):=iD (by rintro _ ⟨n,rfl⟩;exact d0.drewN n);replace h:=iD h;clear ih hcl hLr hRr hLc hRc hn0 hVl hVr hL hR hM d0 d1 d2 d3 hr0 hroot hjn hjs hTW hpk;go_enter func217,ntmps217;go_wp2_with fail;refine Ye 12 (by kernel_rfl) (by kernel_rfl) ?_;simp only[lI,lJ,lK,lL];repeat (first | go_big_quiet_step (fail) | (refine Yf 158 (.tmp 13) rfl rfl (ps k) 0 rfl 235 (Zf nd.name nd.b nd.gone (.slice LA L.length lc) (.slice RA R.length rc)) (Z1 nd.name) [B nd.b,.bool nd.gone,.slice LA L.length lc,.slice RA R.length rc] hBn.out rfl _ underlying158 rfl (Xe hcom) ?_;go_frame))
  refine lB ?_;rintro _ ⟨nq,rfl⟩;refine Ke rfl (.agg (Zf nd.name nd.b nd.gone Z2 Z2).toArray) (Znv 235 0 1 2 (.tmp 14) (.tmp 18) (.tmp 22) rfl (.agg (Z1 nd.name).toArray) (B nd.b) (.bool nd.gone) _ rfl rfl rfl (Znu nd.name nd.b nd.gone hcom _)) ?_;go_frame;have hbq:Below W.heap.size W (W.drewN nq):=(Touch.drewN (L:=[]) nq).below (lA _) (fun _ hi=>by cases hi);have hq:=h.out.calm hbq;generalize W.drewN nq=Wq at hbq hq ⊢;have c36:∀ o,(Wq.alloc o).cell? ⟨ps k,36,none⟩=some (.slice LA L.length lc):=fun o=>((hnode.out _ (hq.calm ((lM _ _).alloc (lA _) o)).below).1.cell 36).trans (Qm hcom _ _ _ _);replace hq:=iD hq;replace hbq:=iD hbq;clear c34 c35 hBn;go_wp2_with fail;generalize hw1:lN Wq (lQ _ 235)=w1;have hb1:Below Wq.heap.size Wq w1:=by rw[<-hw1];exact bL
  have hN1:Blk w1 Wq.heap.size 235 (Zf nd.name nd.b nd.gone Z2 Z2):=by rw[<-hw1];exact Blk.new_at (cs:=Zf nd.name nd.b nd.gone Z2 Z2) rfl
  have hs1:=hq.out.calm hb1;have ht1:Touch [mc] W w1:=Touch.ofBelow (hbq.out.trans (hb1.mono hbq.out.size));have hsq':W.heap.size<=Wq.heap.size:=hbq.out.size;obtain⟨M,hMq⟩:∃ M,M=Wq.heap.size:=⟨_,rfl⟩;rw[<-hMq] at hN1 hsq' ⊢;have hM0:W0.heap.size<=M:=lG h.out.le hsq';clear c36 hw1 hb1 hq hbq hMq;replace hs1:=iD hs1;replace hN1:=iD hN1;replace ht1:=iD ht1;go_loopw [30] (fun i wr=>∃ (m:Nat) (VV:Value) (xs:List Value),m<=L.length/\i=.int .i64 (m:Int)/\CpSt W0 wr tb cc t1 t3 tc nc mc ac/\Touch [mc] W wr/\Blk wr M 235 (Zf nd.name nd.b nd.gone VV Z2)/\wr.ownsRow W.heap.size 233 1 VV m xs) (fun i _=>L.length - (intOf i).toNat)
  case atStart=>exact⟨0,Z2,[],lR _,rfl,hs1.out,ht1.out,hN1.out,rfl,.inl ⟨rfl,rfl⟩⟩
  case round =>
   obtain⟨m,VV,xs,hm,rfl,hst,htr,hNr,hrow⟩:=hrel;by_cases hlt:m<L.length
   ·obtain⟨g,rfl,hgl,hgc⟩:=hLc'.out m hlt;obtain⟨FA,fc,rfl,_,_⟩:=Z6 hrow;have cg:wr.cell? ⟨g,m,none⟩=some (ndP (ps L[m])):=by rw[hst.below.cell (p:=⟨g,m,none⟩) hgl];exact hgc
    have i1:(0:Int)<=(m:Int):=by omega
    have i2:(m:Int)<(L.length:Int):=by omega
    have cfc:wr.cell? ⟨cc,0,none⟩=some (Z0o cc t1 t3):=hst.fc.cell 0;have cM:wr.cell? ⟨M,36,none⟩=some (.slice FA m fc):=(hNr.cell 36).trans (Qm hcom _ _ _ _);unfold Z0o at cfc;have hstd:=hst.calm (lM wr.heap.size wr).drew;have hcall:=iD (hcL.out _ m hlt hstd);go_upto_region 5 with fail;obtain⟨PS,hPS⟩:∃ PS:World->Prop,∀ x,PS x ↔ x.cell? ⟨cc,0,none⟩=some (.func (.func 217) #[] #[.pointer (some ⟨cc,0,none⟩),.pointer (some ⟨t1,0,none⟩),.pointer (some ⟨t3,0,none⟩)])/\x.cell? ⟨M,36,none⟩=some (.slice FA m fc):=⟨_,fun _=>l7⟩;have s1:∀ z:Cls PS,z.1.cell? ⟨cc,0,none⟩=some (.func (.func 217) #[] #[.pointer (some ⟨cc,0,none⟩),.pointer (some ⟨t1,0,none⟩),.pointer (some ⟨t3,0,none⟩)]):=fun z=>((hPS _).1 z.2).1;have s2:∀ z:Cls PS,z.1.cell? ⟨M,36,none⟩=some (.slice FA m fc):=fun z=>((hPS _).1 z.2).2;have s4:PS wr.drew:=(hPS _).2 ⟨cfc,cM⟩;haveI : Nonempty (Cls PS):=⟨⟨_,s4⟩⟩;replace hPS:=iD hPS;replace hst:=iD hst;replace htr:=iD htr;replace hNr:=iD hNr;replace hrow:=iD hrow;replace hstd:=iD hstd;have hmcN:M ≠ mc:=hst.out.by_.ne_blk hNr.out;refine Ur (fun w'=>∃ z:Cls PS,w'=z.1) (.one [0,1,2,3,4,5,6] 7 (.one [] 8 (.one [] 9 (.tail [])))) 10 [11,12] (by kernel_rfl) (by kernel_rfl) (fun _ d _ _ _ h=>by cases d <;> exact h) ⟨⟨_,s4⟩,rfl⟩ ?_;simp only[Kz,Qj,Zj,lZ,l0,Yw,Ys];repeat (first | go_big_quiet_step (fail))
    refine lB ?_;intro K hK;go_simp;refine hcall.out.mono ?_;rintro e w2 ⟨nb,rfl,hst2,ht2⟩;have htd:Touch [mc] wr w2:=(Touch.drewN (w:=wr) (L:=[mc]) 1).trans ht2 (fun i hi=>.inl hi);have hN2:=hNr.out.touch htd (by simpa using hmcN);have hrow2:=Zk hrow.out htd (fun b hb hm=>by
     obtain⟨cs,hB⟩:=Xq hrow.out hb;exact hst.out.by_.ne_blk hB (by simpa using hm))
    refine hK _ _ ⟨⟨_,(hPS.out _).2 ⟨hst2.fc.cell 0,(hN2.cell 36).trans (Qm hcom _ _ _ _)⟩⟩,rfl⟩ ?_;clear hK;refine lB ?_;intro K hK;refine Z07 _ _ rfl _ (Uk 231 (.tmp 41) rfl _ _ rfl (Zdg nb _)) ?_;have hb3:Below w2.heap.size w2 (w2.alloc (.cells #[ndP nb] 233)):=bL;have hst3:=hst2.calm hb3;have hN3:=hN2.below hb3 hN2.lt;refine hK _ _ ⟨⟨_,(hPS.out _).2 ⟨hst3.fc.cell 0,(hN3.cell 36).trans (Qm hcom _ _ _ _)⟩⟩,rfl⟩ ?_;clear hK;refine lB ?_;intro K hK;refine V5 _ rfl (.tmp 38) (.tmp 42) 231 rfl W.heap.size 233 (.pointer none) 1 8 underlying231 Z19 (.slice FA m fc) m xs rfl (hrow2.alloc _) (fun _=>True) (some ⟨w2.heap.size,0,none⟩) 1 1 [ndP nb] rfl rfl (Rd.of_blk (cs:=[ndP nb]) (r:=[]) (Blk.new_at rfl) rfl trivial) (by simp[nO]) (by unfold maxLen;omega) (by omega) (by have:=htr.out.size;have:=htd.size;simp;omega) ?_;intro v4 W4 hrow4 hg4 hv4;obtain⟨GA,gc,rfl,_,_⟩:=Z6 hrow4;have hrow3:=hrow2.alloc (.cells #[ndP nb] 233);have hgt:Touch (lD FA m fc).ownBlock.toList (w2.alloc (.cells #[ndP nb] 233)) W4:=Touch.grown hg4 (fun b hb=>lH.2 hb);have hst4:=hst3.by hgt (fun i hi=>by
     have hi:=lH.1 hi;exact⟨lG h.out.le (hrow3.lt i hi).1,.inl (Xq hrow3 hi)⟩)
    have hN4:Blk W4 M 235 _:=hN3.grown hg4 (J7 hrow3 hN3 (by decide));refine hK _ _ ⟨⟨_,(hPS.out _).2 ⟨hst4.fc.cell 0,(hN4.cell 36).trans (Qm hcom _ _ _ _)⟩⟩,rfl⟩ ?_;clear hK;refine lB ?_;have f4:=hN4.frozen 36;have c4:W4.cell? ⟨M,36,none⟩=some (.slice FA m fc):=(hN4.cell 36).trans (Qm hcom _ _ _ _)
    change wpList _ _ _ _ _ _
    have t24:Touch (mc :: (lD FA m fc).ownBlock.toList) wr W4:=((htd.under (hb3.mono htd.size)).mono (fun i hi=>.inl (by simp at hi;simp[hi]))).trans hgt (fun i hi=>.inl (l1 _ hi));go_frame;replace hst4:=iD hst4;replace hN4:=iD hN4;replace hrow4:=iD hrow4;clear hcall s1 s2 s4 hst3 hN3 hrow3 hgt hst2 hN2 hrow2 hg4 hv4 hb3 cg cfc cM;go_wp2_with fail;have t5:Touch [M] W4 (W4.setCell ⟨M,36,none⟩ (.slice GA (m+1) gc)):=Touch.setCell _ (by simp);refine⟨⟨m+1,.slice GA (m+1) gc,xs++[ndP nb],by omega,by go_num,hst4.out.by t5 (fun i hi=>?_),?_,?_,?_⟩,by simp[intOf];omega⟩
    ·obtain rfl:i=M:=by simpa using hi
     exact⟨hM0,.inr ⟨_,hN4.out⟩⟩
    ·exact (htr.out.trans t24 (fun i hi=>(lE.1 hi).elim (fun e=>.inl (by simp[e])) (fun e=>.inr (hrow.out.lt i (lH.1 e)).1))).trans t5 (fun i hi=>.inr (by simp at hi;omega))
    ·have h1:=hN4.out.set_ 36 (.slice GA (m+1) gc);rw[Zbv hcom] at h1;exact h1
    ·exact Zk hrow4.out t5 (fun b hb hm=>by
      obtain rfl:b=M:=by simpa using hm
      exact J7 hrow4.out hN4.out (by decide) hb.symm)
   ·have hmt:m=L.length:=by omega
    subst hmt;obtain⟨FA,fc,rfl,_,_⟩:=Z6 hrow;have c37:wr.cell? ⟨ps k,37,none⟩=some (.slice RA R.length rc):=((hnode.out wr hst.below).1.cell 37).trans (Qn hcom _ _ _ _);have hs2:=iD hst;have ht2:=iD htr;have hN2:=iD hNr;obtain⟨VL,hVL⟩:∃ VL,VL=lD FA L.length fc:=⟨_,rfl⟩;rw[<-hVL] at hN2;clear hst htr hNr hrow hs1 ht1 hN1 hVL;go_wp2_with fail;go_loopw [52] (fun i wr=>∃ (m:Nat) (VV:Value) (xs:List Value),m<=R.length/\i=.int .i64 (m:Int)/\CpSt W0 wr tb cc t1 t3 tc nc mc ac/\Touch [mc] W wr/\Blk wr M 235 (Zf nd.name nd.b nd.gone VL VV)/\wr.ownsRow W.heap.size 233 1 VV m xs) (fun i _=>R.length - (intOf i).toNat)
    case atStart=>exact⟨0,Z2,[],lR _,rfl,hs2.out,ht2.out,hN2.out,rfl,.inl ⟨rfl,rfl⟩⟩
    case round =>
     obtain⟨m,VV,xs,hm,rfl,hst,htr,hNr,hrow⟩:=hrel;by_cases hlt:m<R.length
     ·obtain⟨g,rfl,hgl,hgc⟩:=hRc'.out m hlt;obtain⟨FA,fc,rfl,_,_⟩:=Z6 hrow;have cg:wr.cell? ⟨g,m,none⟩=some (ndP (ps R[m])):=by rw[hst.below.cell (p:=⟨g,m,none⟩) hgl];exact hgc
      have i1:(0:Int)<=(m:Int):=by omega
      have i2:(m:Int)<(R.length:Int):=by omega
      have cfc:wr.cell? ⟨cc,0,none⟩=some (Z0o cc t1 t3):=hst.fc.cell 0;have cM:wr.cell? ⟨M,37,none⟩=some (.slice FA m fc):=(hNr.cell 37).trans (Qn hcom _ _ _ _);unfold Z0o at cfc;have hstd:=hst.calm (lM wr.heap.size wr).drew;have hcall:=iD (hcR.out _ m hlt hstd);go_upto_region 10 with fail;obtain⟨PS,hPS⟩:∃ PS:World->Prop,∀ x,PS x ↔ x.cell? ⟨cc,0,none⟩=some (.func (.func 217) #[] #[.pointer (some ⟨cc,0,none⟩),.pointer (some ⟨t1,0,none⟩),.pointer (some ⟨t3,0,none⟩)])/\x.cell? ⟨M,37,none⟩=some (.slice FA m fc):=⟨_,fun _=>l7⟩;have s1:∀ z:Cls PS,z.1.cell? ⟨cc,0,none⟩=some (.func (.func 217) #[] #[.pointer (some ⟨cc,0,none⟩),.pointer (some ⟨t1,0,none⟩),.pointer (some ⟨t3,0,none⟩)]):=fun z=>((hPS _).1 z.2).1;have s2:∀ z:Cls PS,z.1.cell? ⟨M,37,none⟩=some (.slice FA m fc):=fun z=>((hPS _).1 z.2).2;have s4:PS wr.drew:=(hPS _).2 ⟨cfc,cM⟩;haveI : Nonempty (Cls PS):=⟨⟨_,s4⟩⟩;replace hPS:=iD hPS;replace hst:=iD hst;replace htr:=iD htr;replace hNr:=iD hNr;replace hrow:=iD hrow;replace hstd:=iD hstd;have hmcN:M ≠ mc:=hst.out.by_.ne_blk hNr.out;refine Ur (fun w'=>∃ z:Cls PS,w'=z.1) (.one [0,1,2,3,4,5,6] 7 (.one [] 8 (.one [] 9 (.tail [])))) 10 [11,12] (by kernel_rfl) (by kernel_rfl) (fun _ d _ _ _ h=>by cases d <;> exact h) ⟨⟨_,s4⟩,rfl⟩ ?_;simp only[Kz,Qj,Zj,lZ,l0,Yw,Ys];repeat (first | go_big_quiet_step (fail))
      refine lB ?_;intro K hK;go_simp;refine hcall.out.mono ?_;rintro e w2 ⟨nb,rfl,hst2,ht2⟩;have htd:Touch [mc] wr w2:=(Touch.drewN (w:=wr) (L:=[mc]) 1).trans ht2 (fun i hi=>.inl hi);have hN2:=hNr.out.touch htd (by simpa using hmcN);have hrow2:=Zk hrow.out htd (fun b hb hm=>by
       obtain⟨cs,hB⟩:=Xq hrow.out hb;exact hst.out.by_.ne_blk hB (by simpa using hm))
      refine hK _ _ ⟨⟨_,(hPS.out _).2 ⟨hst2.fc.cell 0,(hN2.cell 37).trans (Qn hcom _ _ _ _)⟩⟩,rfl⟩ ?_;clear hK;refine lB ?_;intro K hK;refine Z07 _ _ rfl _ (Uk 231 (.tmp 63) rfl _ _ rfl (Zdg nb _)) ?_;have hb3:Below w2.heap.size w2 (w2.alloc (.cells #[ndP nb] 233)):=bL;have hst3:=hst2.calm hb3;have hN3:=hN2.below hb3 hN2.lt;refine hK _ _ ⟨⟨_,(hPS.out _).2 ⟨hst3.fc.cell 0,(hN3.cell 37).trans (Qn hcom _ _ _ _)⟩⟩,rfl⟩ ?_;clear hK;refine lB ?_;intro K hK;refine V5 _ rfl (.tmp 60) (.tmp 64) 231 rfl W.heap.size 233 (.pointer none) 1 8 underlying231 Z19 (.slice FA m fc) m xs rfl (hrow2.alloc _) (fun _=>True) (some ⟨w2.heap.size,0,none⟩) 1 1 [ndP nb] rfl rfl (Rd.of_blk (cs:=[ndP nb]) (r:=[]) (Blk.new_at rfl) rfl trivial) (by simp[nO]) (by unfold maxLen;omega) (by omega) (by have:=htr.out.size;have:=htd.size;simp;omega) ?_;intro v4 W4 hrow4 hg4 hv4;obtain⟨GA,gc,rfl,_,_⟩:=Z6 hrow4;have hrow3:=hrow2.alloc (.cells #[ndP nb] 233);have hgt:Touch (lD FA m fc).ownBlock.toList (w2.alloc (.cells #[ndP nb] 233)) W4:=Touch.grown hg4 (fun b hb=>lH.2 hb);have hst4:=hst3.by hgt (fun i hi=>by
       have hi:=lH.1 hi;exact⟨lG h.out.le (hrow3.lt i hi).1,.inl (Xq hrow3 hi)⟩)
      have hN4:Blk W4 M 235 _:=hN3.grown hg4 (J7 hrow3 hN3 (by decide));refine hK _ _ ⟨⟨_,(hPS.out _).2 ⟨hst4.fc.cell 0,(hN4.cell 37).trans (Qn hcom _ _ _ _)⟩⟩,rfl⟩ ?_;clear hK;refine lB ?_;have f4:=hN4.frozen 37;have c4:W4.cell? ⟨M,37,none⟩=some (.slice FA m fc):=(hN4.cell 37).trans (Qn hcom _ _ _ _)
      change wpList _ _ _ _ _ _
      have t24:Touch (mc :: (lD FA m fc).ownBlock.toList) wr W4:=((htd.under (hb3.mono htd.size)).mono (fun i hi=>.inl (by simp at hi;simp[hi]))).trans hgt (fun i hi=>.inl (l1 _ hi));go_frame;replace hst4:=iD hst4;replace hN4:=iD hN4;replace hrow4:=iD hrow4;clear hcall s1 s2 s4 hst3 hN3 hrow3 hgt hst2 hN2 hrow2 hg4 hv4 hb3 cg cfc cM;go_wp2_with fail;have t5:Touch [M] W4 (W4.setCell ⟨M,37,none⟩ (.slice GA (m+1) gc)):=Touch.setCell _ (by simp);refine⟨⟨m+1,.slice GA (m+1) gc,xs++[ndP nb],by omega,by go_num,hst4.out.by t5 (fun i hi=>?_),?_,?_,?_⟩,by simp[intOf];omega⟩
      ·obtain rfl:i=M:=by simpa using hi
       exact⟨hM0,.inr ⟨_,hN4.out⟩⟩
      ·exact (htr.out.trans t24 (fun i hi=>(lE.1 hi).elim (fun e=>.inl (by simp[e])) (fun e=>.inr (hrow.out.lt i (lH.1 e)).1))).trans t5 (fun i hi=>.inr (by simp at hi;omega))
      ·have h1:=hN4.out.set_ 37 (.slice GA (m+1) gc);rw[Zbw hcom] at h1;exact h1
      ·exact Zk hrow4.out t5 (fun b hb hm=>by
        obtain rfl:b=M:=by simpa using hm
        exact J7 hrow4.out hN4.out (by decide) hb.symm)
     ·have hmt:m=R.length:=by omega
      subst hmt;obtain⟨FB,fd,rfl,_,_⟩:=Z6 hrow;obtain⟨e0,e1,e2,e3⟩:=hnode.out wr hst.below;have cf1:wr.cell? ⟨t1,0,none⟩=some (.pointer (some ⟨tb,0,none⟩)):=hst.f1.cell 0;obtain⟨sc,hsc⟩:=hst.tree;replace hrow:=iD hrow;by_cases hk0:k=0
      ·have e4:=e2 hk0;replace hst:=iD hst;replace htr:=iD htr;replace hNr:=iD hNr;clear e0 e2 e3 hsc;replace hk0:=iD hk0;go_wp2_with fail;go_returns;exact⟨M,rfl,hst.out,htr.out⟩
      ·have e4:=e3 hk0;have cf3:wr.cell? ⟨t3,0,none⟩=some (.pointer (some ⟨tc,0,none⟩)):=hst.f3.cell 0;have ct1:wr.cell? ⟨tc,1,none⟩=some (.map (some mc)):=hsc.cell 1;have hN3:Hid (∀ w',(∃ n,w'=wr.drewN n)->Blk w' M 235 (Zf nd.name nd.b nd.gone VL (.slice FB R.length fd))):=iD (by rintro _ ⟨n,rfl⟩;exact hNr.drewN n);replace hst:=iD hst;replace htr:=iD htr;replace hNr:=iD hNr;clear e0 e2 e3 hsc;replace hk0:=iD hk0;go_wp2_with fail;refine Ye 9 (by kernel_rfl) (by kernel_rfl) ?_;simp only[lI,lJ,lK,lL];repeat (first
        | go_big_quiet_step (fail)
        | (refine Yf 158 (.tmp 81) rfl rfl M 0 rfl 235 (Zf nd.name nd.b nd.gone VL (.slice FB R.length fd)) (Z1 nd.name) [B nd.b,.bool nd.gone,VL,.slice FB R.length fd] hN3.out rfl _ underlying158 rfl (Xe hcom) ?_;go_frame))
       refine lB ?_;rintro _ ⟨nq2,rfl⟩;have hbq:Below wr.heap.size wr (wr.drewN nq2):=(Touch.drewN (L:=[]) nq2).below (lA _) (fun _ hi=>by cases hi);have hsq:=hst.out.calm hbq;obtain⟨w5,hrun,hM5,ht5⟩:=hsq.by_.store Z04 (Znq nd.name) underlying243 ⟨nd.name,hcom,rfl⟩ (.pointer (some ⟨M,0,none⟩));have ht5':Touch [mc] (wr.drewN nq2) w5:=V9 ht5;refine Ol rfl (Ok 243 (.tmp 78) (.tmp 82) (.tmp 83) rfl _ _ _ rfl rfl rfl hrun) ?_;have hst5:CpSt W0 w5 tb cc t1 t3 tc nc mc ac:=by
        obtain⟨s,hs⟩:=hsq.tree;have key:∀ {g:Nat} {t:TypeId} {cs:List Value},Blk (wr.drewN nq2) g t cs->g ∉ [mc]:=fun {g t cs} hB=>by simpa using hsq.by_.ne_blk hB
        have hmc5:∀ i ∈ [mc],W0.heap.size<=i:=fun i hi=>by
         have e:i=mc:=by simpa using hi
         rw[e];exact hsq.lo.2.2.2.2
        exact⟨hsq.below.trans (ht5'.below hsq.le hmc5),hsq.lo,hsq.fc.touch ht5' (key hsq.fc),hsq.f1.touch ht5' (key hsq.f1),hsq.f3.touch ht5' (key hsq.f3),⟨s,hs.touch ht5' (key hs)⟩,hM5⟩
       have ht6:Touch [mc] W w5:=(htr.out.trans (Touch.drewN (L:=[mc]) nq2) (fun i hi=>.inl hi)).trans ht5' (fun i hi=>.inl hi);clear hrun ht5 hM5 hsq hN3 cf3 ct1;replace hst5:=iD hst5;replace ht6:=iD ht6;go_wp2_with fail;go_returns;exact⟨M,rfl,hst5.out,ht6.out⟩
end
section
set_option maxRecDepth 100000
set_option maxHeartbeats 8000000
open Go.Lib renaming hid → iD
open Go.Proofs.Tryz
open Go.RowKit
open Go.Maps Go.MapKept Go.ChangeMaps
theorem Znx{P:Program}{ops:Array Oper}{o:Oper}{a:Act}{w:World}{K:Act->World->Prop}{Q:Exit->Act->World->Prop}{E:Prop}(hgd:o.guard=none)(h:Oper.wp P o a w K Q):if nP o (yielded ops a.tmps)=true then Oper.wp P o a w K Q else E:=by
 rw[if_pos (by simp[nP,hgd])];exact h
def Z49(w:World)(r:Nat):Nat:=match w.heap[r]? with
 | some (.mapIter (some b) _ seen _)=>match w.heap[b]? with
  | some (.map xs _)=>(leftOf xs seen).size
  | _=>0
 | _=>0
theorem ItW.count{w:World}{r b:Nat}{es left:List (Value × Value)}(h:ItW w r b es left):Z49 w r=left.length:=by
 obtain⟨xs,clock,since,seen,c0,h1,_,_,_,h2,_,_,_,h3⟩:=h;unfold Z49;rw[h2];dsimp only;rw[h1];dsimp only;rw[h3];simp
theorem ItW.noblk{w:World}{r b:Nat}{es left:List (Value × Value)}(h:ItW w r b es left)(t:TypeId)(cs:List Value):¬ Blk w r t cs:=fun hB=>by
 obtain⟨xs,clock,since,seen,c0,_,_,_,_,h2,_⟩:=h;have:=hB.symm.trans h2
 injection this with this
 cases this
theorem ItW.nomap{w:World}{r b c:Nat}{es left:List (Value × Value)}{ok:Value->Prop}(h:ItW w r b es left)(hM:Xn w c ok):r ≠ c:=fun e=>by
 obtain⟨xs,clock,since,seen,c0,_,_,_,_,h2,_⟩:=h;obtain⟨ys,k,h3,_⟩:=hM;rw[e] at h2;have:=h2.symm.trans h3
 injection this with this
 cases this
structure CpPre (W0 W:World) (tb t1 t3 tc nc mc ac:Nat):Prop where
 below:Below W0.heap.size W0 W
 f1:Blk W t1 72 [.pointer (some ⟨tb,0,none⟩)]
 f3:Blk W t3 72 [.pointer (some ⟨tc,0,none⟩)]
 tree:∃ s,Blk W tc 245 (Jl nc mc ac s)
 by_:Xn W mc Uh
 added:Xn W ac Ga
theorem CpPre.calm{W0 W W':World}{tb t1 t3 tc nc mc ac:Nat}(h:CpPre W0 W tb t1 t3 tc nc mc ac)(hb:Below W.heap.size W W'):CpPre W0 W' tb t1 t3 tc nc mc ac:=by
 obtain⟨s,hs⟩:=h.tree;exact⟨h.below.trans (hb.mono h.below.size),h.f1.below hb h.f1.lt,h.f3.below hb h.f3.lt,⟨s,hs.below hb hs.lt⟩,h.by_.below hb h.by_.lt,h.added.below hb h.added.lt⟩
theorem CpPre.touch{W0 W W':World}{tb t1 t3 tc nc mc ac i:Nat}(h:CpPre W0 W tb t1 t3 tc nc mc ac)(ht:Touch [i] W W')(hi:W0.heap.size<=i)(hB:∀ t cs,¬ Blk W i t cs)(hm:i ≠ mc)(ha:i=ac->Xn W' ac Ga):CpPre W0 W' tb t1 t3 tc nc mc ac:=by
 obtain⟨s,hs⟩:=h.tree;have key:∀ {g:Nat} {t:TypeId} {cs:List Value},Blk W g t cs->g ∉ [i]:=fun {g t cs} hb hg=>by
  obtain rfl:g=i:=by simpa using hg
  exact hB _ _ hb
 refine⟨h.below.trans (ht.below h.below.size (fun j hj=>by
  have : j=i:=by simpa using hj
  rw[this];exact hi)),h.f1.touch ht (key h.f1),h.f3.touch ht (key h.f3),⟨s,hs.touch ht (key hs)⟩,h.by_.touch ht (by simpa using fun e=>hm e.symm),?_⟩
 by_cases e:i=ac
 ·exact ha e
 ·exact h.added.touch ht (by simpa using fun e'=>e e'.symm)
theorem Zny(T:FT)(hTk:FTok T)(hnl:T.nodes.length<=400001)(base tb mb ab:Nat)(ps:Nat->Nat)(V:Nat->Bool->Value)(w:World)(h:TreeM w base tb mb ab ps V T) :
  Calls lC 165 #[.pointer (some ⟨tb,0,none⟩)] w fun e w'=>∃ cb,e=.returned (.pointer (some ⟨cb,0,none⟩))/\Below w.heap.size w w':=by
 have hlt:=iD (show tb<w.heap.size/\ab<w.heap.size from ⟨h.tree.lt,h.added.lt⟩);have hTB:=iD (fun W (hb:Below w.heap.size w W)=>h.calm hb);have hcp:=iD (Znw T hTk hnl base tb mb ab ps V w h);have hdk:=iD (Z6p hTk);obtain⟨r0,hr0,_⟩:=hTk.root;clear h;go_enter func165,ntmps165;go_wp2_with fail;generalize hW1:lN w (lQ _ 72)=W1;have hb1:Below w.heap.size w W1:=by rw[<-hW1];exact bL
 have hB1:Blk W1 w.heap.size 72 [.pointer (some ⟨tb,0,none⟩)]:=by rw[<-hW1];exact Blk.new_at (cs:=[.pointer (some ⟨tb,0,none⟩)]) rfl
 clear hW1;refine (Z3s tb (ps 0) mb ab T.seen W1 (hTB.out W1 hb1).tree).mono ?_;rintro e W2 ⟨rfl,rfl⟩;have c1:W2.cell? ⟨w.heap.size,0,none⟩=some (.pointer (some ⟨tb,0,none⟩)):=hB1.cell 0;replace hB1:=iD hB1;replace hb1:=iD hb1;go_wp2_with fail;refine (Z98 _).mono ?_;rintro e W3 ⟨tc,nc,mc,ac,rfl,hC,e1,e2,e3,e4,hb3⟩;replace hC:=iD hC;replace hb3:=iD hb3;clear c1;go_wp2_with fail;generalize hW4:lN W3 (lQ _ 72)=W4;have hb4:Below W3.heap.size W3 W4:=by rw[<-hW4];exact bL
 have hB4:Blk W4 W3.heap.size 72 [.pointer (some ⟨tc,0,none⟩)]:=by rw[<-hW4];exact Blk.new_at (cs:=[.pointer (some ⟨tc,0,none⟩)]) rfl
 have hb24:Below W2.heap.size W2 W4:=hb3.out.trans (hb4.mono hb3.out.size);have hb04:Below w.heap.size w W4:=hb1.out.trans (hb24.mono hb1.out.size);have hC4:=hC.out.below hb4;have hB14:=hB1.out.below hb24 hB1.out.lt;have hT4:=hTB.out W4 hb04;have hP4:CpPre w W4 tb w.heap.size W3.heap.size tc nc mc ac:=⟨hb04,hB14,hB4,⟨0,hC4.tree⟩,Xn.of hC4.by_ (by simp),Xn.of hC4.added (by simp)⟩;have cT3:W4.cell? ⟨W3.heap.size,0,none⟩=some (.pointer (some ⟨tc,0,none⟩)):=hB4.cell 0;have cT1:W4.cell? ⟨w.heap.size,0,none⟩=some (.pointer (some ⟨tb,0,none⟩)):=hB14.cell 0;have cS:W4.cell? ⟨tb,3,none⟩=some (.int .i64 T.seen):=hT4.tree.cell 3;have z1:w.heap.size<=W2.heap.size:=hb1.out.size;have hz:w.heap.size<=nc/\mc ≠ ac/\w.heap.size<=mc/\w.heap.size<=ac/\w.heap.size<=tc/\w.heap.size<=W3.heap.size:=⟨by omega,by omega,by omega,by omega,by omega,lG z1 hb3.out.size⟩;replace hz:=iD hz;have hseed:=iD hC4.tree;clear hW4 hC hb3 hb4 hB1 hb24 hB14 hB4 hT4 hb1 hC4 hb04 e1 e2 e3 e4 z1;replace hP4:=iD hP4;refine Ye 7 (by kernel_rfl) (by kernel_rfl) ?_;simp only[lI,lJ,lK,lL];repeat (first | go_big_quiet_step (fail))
 refine lB ?_;rintro _ ⟨nq,rfl⟩;have hbq:Below W4.heap.size W4 (W4.drewN nq):=(Touch.drewN (L:=[]) nq).below (lA _) (fun _ hi=>by cases hi);have hPq:=hP4.out.calm hbq;have hTq:=hseed.out.drewN nq;generalize W4.drewN nq=Wq at hPq hTq ⊢;have cq:Wq.cell? ⟨tc,3,none⟩=some (.int .i64 0):=hTq.cell 3;have fq:=hTq.frozen 3;have hT5:Blk (Wq.setCell ⟨tc,3,none⟩ (.int .i64 T.seen)) tc 245 (Jl nc mc ac T.seen):=hTq.set_ 3 _;have t5:Touch [tc] Wq (Wq.setCell ⟨tc,3,none⟩ (.int .i64 T.seen)):=Touch.setCell _ (by simp);have hP5:CpPre w (Wq.setCell ⟨tc,3,none⟩ (.int .i64 T.seen)) tb w.heap.size W3.heap.size tc nc mc ac:=by
  have n1:=hPq.f1.ne_ hTq (by decide);have n2:=hPq.f3.ne_ hTq (by decide);have n3:=hPq.by_.ne_blk hTq;have n4:=hPq.added.ne_blk hTq;exact⟨hPq.below.setCell hz.out.2.2.2.2.1 _,hPq.f1.touch t5 (by simpa using n1),hPq.f3.touch t5 (by simpa using n2),⟨_,hT5⟩,hPq.by_.touch t5 (by simpa using fun e=>n3 e.symm),hPq.added.touch t5 (by simpa using fun e=>n4 e.symm)⟩
 obtain⟨W5,hW5⟩:∃ W5,W5=Wq.setCell ⟨tc,3,none⟩ (.int .i64 T.seen):=⟨_,rfl⟩;rw[<-hW5] at hP5;have d1:(Wq.setCell ⟨tc,3,none⟩ (.int .i64 T.seen)).cell? ⟨w.heap.size,0,none⟩=some (.pointer (some ⟨tb,0,none⟩)):=by rw[<-hW5];exact hP5.f1.cell 0
 have d2:(Wq.setCell ⟨tc,3,none⟩ (.int .i64 T.seen)).cell? ⟨tb,2,none⟩=some (.map (some ab)):=by rw[<-hW5];exact (hTB.out W5 hP5.below).tree.cell 2
 have hM5:=iD (show Yn (Wq.setCell ⟨tc,3,none⟩ (.int .i64 T.seen)) ab (Ql T) by rw[<-hW5];exact (hTB.out W5 hP5.below).added);replace hW5:=iD hW5;replace hP5:=iD hP5;clear cT3 cT1 cS hPq hTq hT5 t5 hP4 hbq hseed;go_wp2_with (first
  | (at_range;refine Zkh rfl (.tmp 21) 26 rfl 47 3 underlying26 ab _ rfl hM5.out ?_;rw[<-hW5.out];intro w6 hI6 hb6;replace hI6:=iD hI6;replace hb6:=iD hb6;go_frame)
  | fail)
 have hP6:=hP5.out.calm hb6.out;have hr6:w.heap.size<=W5.heap.size:=hP5.out.below.size;clear hP5 hb6 d1 d2 hM5 hW5 cq fq;generalize W5.heap.size=r at hI6 hr6 ⊢;go_loopw [5] (fun x wr=>∃ left,ItW wr r ab (Ql T) left/\(∀ p ∈ left,p ∈ Ql T)/\CpPre w wr tb w.heap.size W3.heap.size tc nc mc ac) (fun _ wr=>Z49 wr r)
 case atStart=>exact⟨Ql T,hI6.out,fun p hp=>hp,hP6⟩
 case round =>
  obtain⟨left,hI,hsub,hP⟩:=hrel;have hcnt:=iD hI.count;cases left with
  | cons p0 left0 =>
   replace hI:=iD hI;replace hP:=iD hP;replace hsub:=iD hsub;clear hI6 hP6;go_upto_region 7 with (first
    | (at_next;refine Zaz rfl (.tmp 22) rfl r ab _ _ rfl hI.out (fun h=>by cases h) ?_;intro pre p post w7 hl hI7 hT7 hen)
    | fail)
   have hpm:p ∈ Ql T:=hsub.out p (by rw[hl];simp);obtain⟨q,hq,hpq⟩:=lY.1 hpm;obtain⟨d,hd,hpd⟩:=hdk.out p hpm;obtain⟨pk,pv⟩:=p;dsimp only at hpd hpq hen;subst hpd;have hpv:pv=.int .i64 (q.2:Int):=by injection hpq with _ e;exact e.symm
   subst hpv;have hP7:=hP.out.touch hT7 hr6 hI.out.noblk (hI.out.nomap hP.out.by_) (fun e=>absurd e (hI.out.nomap hP.out.added));have hl':=iD hl;have hlen:Hid ((pre++post).length<Z49 wr r):=iD (by
    rw[hcnt.out,hl];simp)
   have hsub':Hid (∀ p ∈ pre++post,p ∈ Ql T):=iD (fun p hp=>hsub.out p (by
    rw[hl];rcases lT.1 hp with h1 | h1
    ·exact nG _ h1
    ·exact List.mem_append_right _ (l1 _ h1)))
   replace hI7:=iD hI7;replace hP7:=iD hP7;clear hl hI hP hT7 hpm hpq hq hl';go_upto_region 8 with (first
    | (refine Zo rfl 47 (.tmp 4) (.tmp 26) rfl w7.heap.size (d.map B) rfl rfl 47 Z3 (Blk.new_at rfl) (by simp[hd,Z3]) (Za hd) (Yk _) ?_;go_frame)
    | fail)
   generalize hW8:nQ _ w7.heap.size _=w8;have hD8:Blk w8 w7.heap.size 47 (d.map B):=by rw[<-hW8];exact (Blk.new_at (cs:=Z3) rfl).setRow_same (d.map B)
   have hb8:Below w7.heap.size w7 w8:=by rw[<-hW8];exact below_setRow ((lM _ _).alloc (lA _) (.cells Z3.toArray 47)) (lA _) (d.map B).toArray
   have hI8:=hI7.out.kept (hb8.block _ hI7.out.map.lt) (hb8.block _ hI7.out.lt);have hP8:=hP7.out.calm hb8;have hD9:Hid (∀ w',(∃ n,w'=w8.drewN n)->Blk w' w7.heap.size 47 (d.map B)):=iD (by rintro _ ⟨n,rfl⟩;exact hD8.drewN n);have g3:w8.cell? ⟨W3.heap.size,0,none⟩=some (.pointer (some ⟨tc,0,none⟩)):=hP8.f3.cell 0;obtain⟨sc,hsc⟩:=hP8.tree;have g2:w8.cell? ⟨tc,2,none⟩=some (.map (some ac)):=hsc.cell 2;clear hW8 hb8 hI7 hP7 hD8 hen hsc;replace hI8:=iD hI8;replace hP8:=iD hP8;refine Ye 6 (by kernel_rfl) (by kernel_rfl) ?_;simp only[lI,lJ,lK,lL];repeat (first
    | go_big_quiet_step (fail)
    | (refine Yf 47 (.tmp 4) rfl rfl w7.heap.size 0 rfl 47 (d.map B) (d.map B) [] hD9.out (by simp) _ underlying47 rfl (Za hd) ?_;go_frame))
   refine lB ?_;rintro _ ⟨nq2,rfl⟩;have hbq2:Below w8.heap.size w8 (w8.drewN nq2):=(Touch.drewN (L:=[]) nq2).below (lA _) (fun _ hi=>by cases hi);have hI9:=hI8.out.kept (hbq2.block _ hI8.out.map.lt) (hbq2.block _ hI8.out.lt);have hP9:=hP8.out.calm hbq2;obtain⟨w10,hrun,hM10,ht10⟩:=hP9.added.store Xz (Znr d) underlying26 ⟨d,hd,rfl⟩ (.int .i64 (q.2:Int));have ht10':Touch [ac] (w8.drewN nq2) w10:=V9 ht10;refine Ol rfl (Ok 26 (.tmp 31) (.tmp 32) (.tmp 33) rfl _ _ _ rfl rfl rfl hrun) ?_;have hP10:=hP9.touch ht10' hz.out.2.2.2.1 (fun t cs hB=>hP9.added.ne_blk hB rfl) (fun e=>hz.out.2.1 e.symm) (fun _=>hM10);have hI10:=hI9.kept (ht10'.block _ hI9.map.lt (by
    have h1:=hlt.out.2;have h2:=hz.out.2.2.2.1;simp;omega)) (ht10'.block _ hI9.lt (by simpa using hI9.nomap hP9.added))
   clear hrun hM10 ht10 hP9 hI9 g3 g2 hD9;replace hP10:=iD hP10;replace hI10:=iD hI10;go_wp2_with fail;refine⟨?_,?_⟩
   ·repeat apply Exists.intro
    exact⟨⟨pre++post,hI10.out,hsub'.out,hP10.out⟩,rfl⟩
   ·rw[hI10.out.count];exact hlen.out
  | nil =>
   replace hI:=iD hI;replace hP:=iD hP;clear hI6 hP6 hsub hcnt;go_upto_region 9 with (first
    | (at_next;refine Zaz rfl (.tmp 22) rfl r ab _ _ rfl hI.out (fun _=>?_) (fun pre p post w' h=>by cases pre <;> simp at h);go_frame)
    | fail)
   go_upto_region 11 with fail;generalize hW7:lN wr (lQ _ 321)=w7;have hs7:CpSt w w7 tb wr.heap.size w.heap.size W3.heap.size tc nc mc ac:=by
    have hb7:Below wr.heap.size wr w7:=by rw[<-hW7];exact bL
    have hP7:=hP.out.calm hb7;refine⟨hP7.below,⟨hP.out.below.size,lA _,hz.out.2.2.2.2.2,hz.out.2.2.2.2.1,hz.out.2.2.1⟩,?_,hP7.f1,hP7.f3,hP7.tree,hP7.by_⟩;rw[<-hW7];exact Blk.new_at (cs:=[Z0o wr.heap.size w.heap.size W3.heap.size]) rfl
   clear hW7;have hsd:=hs7.calm (lM w7.heap.size w7).drew;have hcall:=iD (hcp.out wr.heap.size w.heap.size W3.heap.size tc nc mc ac T.nodes.length 0 r0 _ hr0 (by omega) hsd);generalize wr.heap.size=cc at hs7 hsd hcall ⊢;obtain⟨PS,hPS⟩:∃ PS:World->Prop,∀ x,PS x ↔ CpSt w x tb cc w.heap.size W3.heap.size tc nc mc ac:=⟨_,fun _=>l7⟩;have s1:∀ z:Cls PS,z.1.cell? ⟨W3.heap.size,0,none⟩=some (.pointer (some ⟨tc,0,none⟩)):=fun z=>((hPS _).1 z.2).f3.cell 0;have s2:∀ z:Cls PS,z.1.cell? ⟨cc,0,none⟩=some (.func (.func 217) #[] #[.pointer (some ⟨cc,0,none⟩),.pointer (some ⟨w.heap.size,0,none⟩),.pointer (some ⟨W3.heap.size,0,none⟩)]):=fun z=>((hPS _).1 z.2).fc.cell 0;have s3:∀ z:Cls PS,z.1.cell? ⟨w.heap.size,0,none⟩=some (.pointer (some ⟨tb,0,none⟩)):=fun z=>((hPS _).1 z.2).f1.cell 0;have s5:∀ z:Cls PS,z.1.cell? ⟨tb,0,none⟩=some (.pointer (some ⟨ps 0,0,none⟩)):=fun z=>(hTB.out _ ((hPS _).1 z.2).below).tree.cell 0;have s4:PS w7.drew:=(hPS _).2 hsd;haveI : Nonempty (Cls PS):=⟨⟨_,s4⟩⟩;replace hPS:=iD hPS;replace hs7:=iD hs7;replace hsd:=iD hsd;refine Ur (fun w'=>∃ z:Cls PS,w'=z.1) (.one [0,1,2,3,4,5] 6 (.tail [])) 7 [8,9] (by kernel_rfl) (by kernel_rfl) (fun _ d _ _ _ h=>by cases d <;> exact h) ⟨⟨_,s4⟩,rfl⟩ ?_;simp only[Kz,Qj,Zj,lZ,l0,Yw,Ys];repeat (first | go_big_quiet_step (fail))
   refine lB ?_;intro K hK;refine Znx rfl ?_;go_simp;refine hcall.out.mono ?_;rintro e w8 ⟨b,rfl,hs8,ht8⟩;refine hK _ _ ⟨⟨_,(hPS.out _).2 hs8⟩,rfl⟩ ?_;clear hK;refine lB ?_
   change wpList _ _ _ _ _ _
   obtain⟨sc,hsc⟩:=hs8.tree;have k1:w8.cell? ⟨tc,0,none⟩=some (.pointer (some ⟨nc,0,none⟩)):=hsc.cell 0;have f1:=hsc.frozen 0;have g1:∀ u,(w8.setCell ⟨tc,0,none⟩ u).cell? ⟨W3.heap.size,0,none⟩=some (.pointer (some ⟨tc,0,none⟩)):=fun u=>(hs8.f3.far (p:=⟨tc,0,none⟩) (hs8.f3.ne_ hsc (by decide)) u).cell 0;have hbw:=iD hs8.below;clear hs8 ht8 hsc hcall s1 s2 s3 s4 s5 hs7 hsd;go_wp2_with fail;go_returns;exact⟨⟨tc,rfl⟩,hbw.out.setCell (p:=⟨tc,0,none⟩) hz.out.2.2.2.2.1 _⟩
end
section
set_option maxRecDepth 100000
set_option maxHeartbeats 16000000
open Go.Lib renaming hid → iD
open Go.Proofs.Tryz
open Go.RowKit Go.Shelf
attribute [local go_sem] Oper.semAt_some
theorem Z4a{w:World}{g l:Nat}{t:TypeId}{cs:List Value}{o:Obj}(h:Blk w g t cs)(hl:w.heap[l]?=some o)(hm:J9 o=true)(o':Obj):Blk (w.putObj l o') g t cs :=
 (World.putObj_heap_other (fun e=>Uq (k:=l) hl hm (e ▸ h))).trans h
theorem Z7c{w:World}{base n k l:Nat}{e:TypeId}{v:Value}{xs:List Value}{o:Obj}(h:w.ownsRow base e k v n xs)(hl:w.heap[l]?=some o)(hm:J9 o=true)(o':Obj):(w.putObj l o').ownsRow base e k v n xs :=
 Zk h (Touch.grown (L:=[l]) (l8 w l o') (fun r e=>by cases e;simp)) (fun b hb hb'=>by
  obtain⟨cs,hB⟩:=Q2 h hb;obtain rfl:b=l:=by simpa using hb'
  exact Uq hl hm hB)
def Znz:List Value:=[.nilFunc,.func (.func 166) #[] #[],.func (.func 167) #[] #[],.func (.func 168) #[] #[]]
structure OpK (w:World) (lim db:Nat) (EV:Value) (l:List PEd) (W:World):Prop where
 le:lim<=W.heap.size
 below:Below w.heap.size w W
 D:Blk W db 256 Znz
 E:W.ownsRow w.heap.size 144 3 EV l.length (Je l)
structure OpI (w:World) (lim tb gb db:Nat) (EV:Value) (l:List PEd) (pre:List (PRef × UInt8)) (W:World):Prop where
 k:OpK w lim db EV l W
 mka:∃ RV,Blk W gb 259 (mk5 tb RV 0 0 Z2)/\W.ownsRow w.heap.size 158 34 RV pre.length (Jp (pre.map (·.1)))
section
variable {w:World} {lim tb gb db:Nat} {EV:Value} {l:List PEd} {pre:List (PRef × UInt8)} {A C:World}
theorem OpK.calm(h:OpK w lim db EV l A)(hb:Below A.heap.size A C):OpK w lim db EV l C :=
 ⟨lG h.le hb.size,h.below.trans (hb.mono h.below.size),h.D.below hb h.D.lt,Zk h.E (Touch.ofBelow (L:=[]) hb) (fun _ _ hm=>by cases hm)⟩
theorem OpK.touch(h:OpK w lim db EV l A){L:List Nat}(ht:Touch L A C)(hL:∀ i ∈ L,w.heap.size<=i/\∃ t cs,Blk A i t cs/\t ≠ 256/\t ≠ 144):OpK w lim db EV l C:=by
 refine⟨lG h.le ht.size,h.below.trans (ht.below h.below.size (fun i hi=>(hL i hi).1)),h.D.touch ht (fun hm=>?_),Zk h.E ht (fun b hb hm=>?_)⟩
 ·obtain⟨_,t,cs,hB,h1,_⟩:=hL _ hm;exact hB.ne_ h.D h1 rfl
 ·obtain⟨_,t,cs,hB,_,h2⟩:=hL _ hm;exact J7 h.E hB h2 hb.symm
theorem OpK.put{q:Nat}{o:Obj}(h:OpK w lim db EV l A)(hw:w.heap.size<=q)(hl:A.heap[q]?=some o)(hm:J9 o=true)(o':Obj):OpK w lim db EV l (A.putObj q o') :=
 ⟨by simpa[World.putObj] using h.le,h.below.grown (l8 A q o') h.below.size (fun k e=>by cases e;exact hw),Z4a h.D hl hm o',Z7c h.E hl hm o'⟩
theorem OpI.calm(h:OpI w lim tb gb db EV l pre A)(hb:Below A.heap.size A C):OpI w lim tb gb db EV l pre C:=by
 obtain⟨RV,h1,h2⟩:=h.mka;exact⟨h.k.calm hb,RV,h1.below hb h1.lt,Zk h2 (Touch.ofBelow (L:=[]) hb) (fun _ _ hm=>by cases hm)⟩
theorem OpI.put{q:Nat}{o:Obj}(h:OpI w lim tb gb db EV l pre A)(hw:w.heap.size<=q)(hl:A.heap[q]?=some o)(hm:J9 o=true)(o':Obj):OpI w lim tb gb db EV l pre (A.putObj q o'):=by
 obtain⟨RV,h1,h2⟩:=h.mka;exact⟨h.k.put hw hl hm o',RV,Z4a h1 hl hm o',Z7c h2 hl hm o'⟩
end
theorem Zo0{l:List PEd}{m:Nat}(hm:m<l.length)(j:Nat)(hj:j<3):(Je l)[m*3+j]?=(Z08 l[m].kind l[m].n l[m].text)[j]?:=by
 have h1:l=(l.take m++[l[m]])++l.drop (m+1):=by
  rw[List.append_assoc,List.singleton_append,<-nE hm,lW]
 have h2:=Z70 (l.take m) l[m] (Je (l.drop (m+1))) j hj;rw[<-Ox,<-h1,nF (by omega)] at h2;exact h2
theorem Zo1{w:World}{base n c:Nat}{A:Option Addr}{l:List PEd}(h:w.ownsRow base 144 3 (.slice A n c) l.length (Je l)){m:Nat}(hm:m<l.length) :
  ∃ g,A=some ⟨g,0,none⟩/\w.cell? ⟨g,m*3,none⟩=some (.int .i64 l[m].kind)/\w.cell? ⟨g,m*3+1,none⟩=some (.int .i64 (l[m].n:Int))/\w.cell? ⟨g,m*3+2,none⟩=some (Z0 l[m].text):=by
 rcases h.2 with ⟨_,h0⟩ | ⟨g,cap,cur,h2,h3,h4,h5,h6,h7,h8⟩
 ·omega
 ·injection h2 with h2
  have hB:Blk w g 144 cur.toList:=by unfold Blk;simpa using h4
  have key:∀ j,j<3->w.cell? ⟨g,m*3+j,none⟩=(Z08 l[m].kind l[m].n l[m].text)[j]?:=fun j hj=>by
   rw[hB.cell,<-Zo0 hm j hj,<-h8,l9 (by omega)]
  exact⟨g,h2,key 0 (by omega),key 1 (by omega),key 2 (by omega)⟩
theorem Zo2:InfoOf lC 158 (.agg (Z1 Z8).toArray) 34 48:=⟨by kernel_rfl,rfl,by omega⟩
theorem Zo3(r:PRef)(hr:r.com.length=32)(w:World):(nM 257 1 #[(0,.agg (Z1 r).toArray)]).run lC w=.ok (.slice (some ⟨w.heap.size,0,none⟩) 1 1) (w.alloc (.cells (Z1 r).toArray 158)):=by
 obtain⟨o,d,n⟩:=r;dsimp only at hr
 iterate 32 (rcases d with _ | ⟨_,d⟩;· (exfalso;simp at hr;done))
 obtain rfl:d=[]:=by
  simp only[lO] at hr;exact nL.1 (by omega)
 kernel_rfl
theorem Zo4(l:List (PRef × UInt8))(x:PRef × UInt8):Jp ((l++[x]).map (·.1))=Jp (l.map (·.1))++Z1 x.1:=by simp[Jp]
theorem Zo5(T:FT)(hTk:FTok T)(hnl:T.nodes.length<=400001)(base0 tb mb ab:Nat)(ps:Nat->Nat)(VT:Nat->Bool->Value)(tx:Str)(ht:tx.length<=1000)(hft:(Xw T).length<=1000)(w:World)(hT:TreeM w base0 tb mb ab ps VT T) :
    Calls lC 91 #[.pointer (some ⟨tb,0,none⟩),Z0 tx] w fun e w'=>∃ V,e=.returned (.tuple #[V,.int .i64 0])/\w'.ownsRow w.heap.size 178 37 V (Vm T tx).length (X5 (Vm T tx))/\Below w.heap.size w w':=by
  have hTB:=iD (fun W (hb:Below w.heap.size w W)=>hT.calm hb);have hcp:=iD (Zny T hTk hnl base0 tb mb ab ps VT w hT);have htx:=iD (fun W (hb:Below w.heap.size w W)=>Zbr T hTk base0 tb mb ab ps VT W (hT.calm hb) hnl);have hmk:=iD (fun W=>Znk (Xw T) tx hft ht W);obtain⟨t0,ht0⟩:∃ t0,t0=Xw T:=⟨_,rfl⟩;rw[<-ht0] at hmk htx;obtain⟨l,hl⟩:∃ l,l=Kt t0 tx:=⟨_,rfl⟩;rw[<-hl] at hmk;unfold Z0 at hmk htx ⊢;replace hl:=iD hl;replace ht0:=iD ht0;clear hT;refine Zhi func91 rfl ?_;simp only[ntmps91,List.size_toArray,lO,l2,nB,Nat.reduceSub,Array.replicate_succ,Array.replicate_zero,List.push_toArray,List.append_toArray,nC,lU];go_wp2_with fail;refine hcp.out.mono ?_;rintro e w1 ⟨cb,rfl,hb1⟩;replace hb1:=iD hb1;go_wp2_with fail;refine (htx.out _ hb1.out).mono ?_;rintro e w2 ⟨rfl,hb2⟩;have hb2':=iD (hb1.out.trans (hb2.mono hb1.out.size));clear hb2;go_wp2_with fail;refine (hmk.out _).mono ?_;rintro e w3 ⟨EV,rfl,hE,hb3⟩;have hb3':=iD (hb2'.out.trans (hb3.mono hb2'.out.size));have hE':=iD (Oh (base':=w.heap.size) hb2'.out.size hE);obtain⟨EA,ec,rfl,_,_⟩:=Z6 hE;clear hb3 hE hmk htx hcp;go_wp2_with fail;generalize hW4:lN (lN w3 _) (lQ _ 259)=w4;have hb4:Below w3.heap.size w3 w4:=by rw[<-hW4];exact bL.alloc (by simp) _
  have hD:Blk w4 w3.heap.size 256 [.nilFunc,.func (.func 166) #[] #[],.func (.func 167) #[] #[],.func (.func 168) #[] #[]]:=by rw[<-hW4];exact Blk.alloc (Blk.new_at (cs:=[_,_,_,_]) rfl) _
  have hM:Blk w4 (w3.heap.size+1) 259 (mk5 tb Z2 0 0 Z2):=by rw[<-hW4];exact Blk.new_at (cs:=mk5 tb Z2 0 0 Z2) (by simp)
  have hE4:=iD (Zk hE'.out (Touch.ofBelow (L:=[]) hb4) (fun _ _ hm=>by cases hm));have hb4':=iD (hb3'.out.trans (hb4.mono hb3'.out.size));have hz3:=iD hb3'.out.size;clear hW4 hE' hb4;replace hD:=iD hD;replace hM:=iD hM;refine (Znd tb _).mono ?_;rintro e w5 ⟨rfl,hX5,hb5⟩;have hb5':=hb4'.out.trans (hb5.mono hb4'.out.size);have hY:=iD (Znf T hTk hnl base0 tb mb ab ps VT w4.heap.size w5 (hTB.out w5 hb5') hX5);replace hb5:=iD hb5;replace hb5':=iD hb5';clear hX5;go_wp2_with fail;have hI5:OpI w w5.heap.size tb (w3.heap.size+1) w3.heap.size (.slice EA l.length ec) l [] w5:=by
    have h1:=hb5.out;exact⟨⟨lA _,hb5'.out,hD.out.below h1 hD.out.lt,Zk hE4.out (Touch.ofBelow (L:=[]) h1) (fun _ _ hm=>by cases hm)⟩,Z2,hM.out.below h1 hM.out.lt,rfl,.inl ⟨rfl,rfl⟩⟩
  have hz5:w.heap.size<=w5.heap.size:=hb5'.out.size;have hitems:Hid ((X6 T).length<=400001/\∀ x ∈ X6 T,x.1.com.length=32):=iD (by
    constructor
    · unfold X6
      rw[lP];have h1:=Z1x hTk T.nodes.length 0;have h2:(Y2 T).length<=(Zr T.nodes T.nodes.length 0).length:=nA _ _;omega
    · intro x hx
      obtain⟨k,_,rfl⟩:=lY.1 hx;unfold Z47 Ya;cases hq:T.nodes[k]? with
      | none=>rfl
      | some nd=>exact (hTk.com hq).1)
  replace hI5:=iD hI5;clear hD hM hE4 hb5 hb5';obtain⟨act,hact⟩:∃ act:Nat->PRef × UInt8->Act,act=fun p x=>{ tmps:=#[.pointer (some ⟨tb,0,none⟩),.string ⟨tx.toArray⟩,undef,undef,.slice none 0 0,.int .i64 0,.slice EA l.length ec,.int .i64 0,.pointer (some ⟨w3.heap.size,0,none⟩),.pointer (some ⟨w3.heap.size+1,0,none⟩),.pointer (some ⟨p,0,none⟩),undef,undef,.pointer (some ⟨tb,0,none⟩),.pointer (some ⟨cb,0,none⟩),.bool false,.tuple #[.slice EA l.length ec,.int .i64 0],.pointer (some ⟨tb,0,none⟩),.string ⟨t0.toArray⟩,.string ⟨tx.toArray⟩,.tuple #[.slice EA l.length ec,.int .i64 0],.slice EA l.length ec,.int .i64 0,.int .i64 0,.bool false,undef,.agg #[.nilFunc,.func (.func 166) #[] #[],.func (.func 167) #[] #[],.func (.func 168) #[] #[]],.pointer (some ⟨tb,0,none⟩),.agg #[.pointer (some ⟨tb,0,none⟩),.slice none 0 0,.int .i64 0,.int .i64 0,.slice none 0 0],.pointer (some ⟨tb,0,none⟩),.func (.func 161) #[] #[.pointer (some ⟨w4.heap.size,0,none⟩)],Zl x.1,B x.2,undef,undef,undef,undef,undef,undef,undef,undef,undef,undef,undef,undef,undef,undef,undef,undef,undef,undef,undef,undef,undef],defers:=[] }:=⟨_,rfl⟩;replace hact:=iD hact;refine Zkf 161 #[.pointer (some ⟨w4.heap.size,0,none⟩)] Zda (X6 T) Zdb Q4 rfl (fun _ _=>by simp[go_sem]) (by rintro _ vs W rfl;rfl) hY.out (fun _ _ h=>KeepM.below h) (fun _ _ _ h k=>h.trans k) (fun A q o o' _ hl hm g t cs hB _=>Z4a hB hl hm o')
    (fun pre W=>OpI w w5.heap.size tb (w3.heap.size+1) w3.heap.size (.slice EA l.length ec) l pre W) ?iq ?im ?ia
    (fun pre x a' W=>OpI w w5.heap.size tb (w3.heap.size+1) w3.heap.size (.slice EA l.length ec) l pre W/\∃ p,a'=act p x/\Blk W p 158 (Z1 x.1)) ?iam ?assign ?body ?done
  case iq=>exact fun pre A C h hb=>h.calm hb
  case im=>exact fun pre A q o o' h hq hl hm=>h.put (lG hz5 hq) hl hm o'
  case ia=>exact fun o1 o2 _ _=>(hI5.out.calm ((lM _ _).alloc (lA _) o1)).calm ((lM _ _).alloc (lA _) o2)
  case iam=>exact fun pre x a' A q o o' ⟨h,p,e,hB⟩ hq hl hm=>⟨h.put (lG hz5 hq) hl hm o',p,e,Z4a hB hl hm o'⟩
  case assign =>
    rintro q pre x r vs W K hI hpr rfl hK;have hrc:x.1.com.length=32:=hitems.out.2 x (by rw[hpr];simp);replace hI:=iD hI;replace hK:=iD hK;unfold Zl
    gi_wp2_with (first
      | (refine Z9y (by rfl) ?_;refine Zo rfl 158 (.tmp 10) (.tmp 31) rfl W.heap.size (Z1 x.1) rfl rfl 158 (Z1 Z8) (Blk.new_at rfl) (by simp[Z1,hrc,Z8,X2]) (Xe hrc) (Ou _) ?_;go_frame)
      | fail)
    refine wpList_nil ?_;generalize hW1:nQ _ W.heap.size (Z1 x.1).toArray=W1;have hD1:Blk W1 W.heap.size 158 (Z1 x.1):=by rw[<-hW1];exact (Blk.new_at (cs:=Z1 Z8) rfl).setRow_same (Z1 x.1)
    have hb1:Below W.heap.size W W1:=by rw[<-hW1];exact below_setRow ((lM _ _).alloc (lA _) (.cells (Z1 Z8).toArray 158)) (lA _) (Z1 x.1).toArray
    have hfin:Hid (K (act W.heap.size x) W1):=iD (hK.out _ _ (KeepM.below hb1) (Q4.below hb1) ⟨hI.out.calm hb1,_,rfl,hD1⟩);rw[hact.out] at hfin;clear hW1 hD1 hb1 hK hI;unfold Z09
    gi_wp2
    exact hfin.out
  case body =>
    rintro q pre x r a' W ⟨hI,p,rfl,hp⟩ hpr;have hrc:x.1.com.length=32:=hitems.out.2 x (by rw[hpr];simp);have hpl:pre.length<=400001:=by
      have:=hitems.out.1;rw[hpr,l3] at this;omega
    obtain⟨RV,hM,hR⟩:=hI.mka;obtain⟨RA,rc,rfl,_,_⟩:=Z6 hR;have c1:W.cell? ⟨w3.heap.size+1,1,none⟩=some (.slice RA pre.length rc):=hM.cell 1;rw[hact.out];have hk:=iD hI.k;have hsz:w.heap.size<=W.heap.size:=hI.k.below.size;have hgb:w.heap.size<=w3.heap.size+1:=by have:=hz3.out;omega
    replace hM:=iD hM;replace hR:=iD hR;replace hp:=iD hp;clear hI;unfold Zl
    gi_wp2_with (first
      | (refine Z9y (by rfl) ?_;refine Y0 rfl 158 (.tmp 10) rfl p rfl 158 (Z1 x.1) hp.out _ underlying158 rfl (Xe hrc) ?_;go_frame
         refine Ke rfl _ (Uk 257 (.tmp 35) rfl (.agg (Z1 x.1).toArray) _ rfl (Zo3 x.1 hrc W)) ?_;go_frame;refine X0 _ rfl (.tmp 34) (.tmp 36) 257 rfl w.heap.size 158 _ 34 48 underlying257 Zo2 (.slice RA pre.length rc) pre.length (Jp (pre.map (·.1))) rfl (hR.out.alloc _) (fun _=>True) (some ⟨W.heap.size,0,none⟩) 1 1 (Z1 x.1) rfl (by simp[Z1,hrc]) (Rd.of_blk (cs:=Z1 x.1) (r:=[]) (Blk.new_at rfl) (by simp) trivial) (Ou _) (by unfold maxLen;omega) (by omega) (by simp;omega) ?_;intro RW W6 hrow hg hv;go_frame)
      | fail)
    obtain⟨RB,rb,rfl,_,_⟩:=Z6 hrow;have hB6:Below W.heap.size W (W.alloc (.cells (Z1 x.1).toArray 158)):=bL;have hM6:Blk W6 (w3.heap.size+1) 259 (mk5 tb (.slice RA pre.length rc) 0 0 Z2):=(hM.out.below hB6 hM.out.lt).grown hg (J7 hR.out hM.out (by decide));have f6:=hM6.frozen 1;have c6:W6.cell? ⟨w3.heap.size+1,1,none⟩=some (.slice RA pre.length rc):=hM6.cell 1;have tA:Touch ((w3.heap.size+1) :: (lD RA pre.length rc).ownBlock.toList) W (W6.setCell ⟨w3.heap.size+1,1,none⟩ (.slice RB (pre.length+1) rb)):=((Touch.ofBelow (L:=(w3.heap.size+1) :: (lD RA pre.length rc).ownBlock.toList) hB6).trans (Touch.grown (L:=(w3.heap.size+1) :: (lD RA pre.length rc).ownBlock.toList) hg (fun b hb=>l1 _ (lH.2 hb))) (fun i hi=>.inl hi)).trans (Touch.setCell (L:=(w3.heap.size+1) :: (lD RA pre.length rc).ownBlock.toList) _ (by simp)) (fun i hi=>.inl hi);have hin:∀ i,i ∈ (w3.heap.size+1) :: (lD RA pre.length rc).ownBlock.toList->(i=w3.heap.size+1/\∃ cs,Blk W i 259 cs) ∨ (w.heap.size<=i/\∃ cs,Blk W i 158 cs):=fun i hi=>by
      rcases lE.1 hi with e | hi
      · exact .inl ⟨e,_,by rw[e];exact hM.out⟩
      · have hi:=lH.1 hi
        exact .inr ⟨(hR.out.lt i hi).1,Q2 hR.out hi⟩
    have hKM:KeepM W (W6.setCell ⟨w3.heap.size+1,1,none⟩ (.slice RB (pre.length+1) rb)):=⟨fun k o ho hm=>Gh tA ho (fun hk'=>by
      rcases hin k hk' with ⟨_,cs,hB⟩ | ⟨_,cs,hB⟩ <;> exact Uq ho hm hB)⟩
    have hNK:Q4 W (W6.setCell ⟨w3.heap.size+1,1,none⟩ (.slice RB (pre.length+1) rb)):=fun g t cs hB ht=>hB.touch tA (fun hk'=>by
      rcases hin g hk' with ⟨_,cs',hB'⟩ | ⟨_,cs',hB'⟩ <;> rcases ht with rfl | rfl <;> exact hB.ne_ hB' (by decide) rfl)
    have hOI:OpI w w5.heap.size tb (w3.heap.size+1) w3.heap.size (.slice EA l.length ec) l (pre++[x]) (W6.setCell ⟨w3.heap.size+1,1,none⟩ (.slice RB (pre.length+1) rb)):=by
      refine⟨hk.out.touch tA (fun i hi=>?_),.slice RB (pre.length+1) rb,hM6.set_ 1 _,?_⟩
      · rcases hin i hi with ⟨e,cs,hB⟩ | ⟨h1,cs,hB⟩
        · exact⟨by rw[e];exact hgb,_,cs,hB,by decide,by decide⟩
        · exact⟨h1,_,cs,hB,by decide,by decide⟩
      · rw[Zo4,l3]
        exact Zk hrow (Touch.setCell (L:=[w3.heap.size+1]) _ (by simp)) (fun b hb hm=>by
          obtain rfl:b=w3.heap.size+1:=by simpa using hm
          exact J7 hrow hM6 (by decide) hb.symm)
    replace hKM:=iD hKM;replace hNK:=iD hNK;replace hOI:=iD hOI;clear tA hin hM6 hB6 hg hv hrow hM hR hk;go_wp2_with fail;unfold Z09
    gi_wp2
    exact⟨(fun e=>by cases e),hKM.out,hNK.out,hOI.out⟩
  case done =>
    rintro D W hDl hI hDD;obtain⟨RV,hM,hR⟩:=hI.mka;have hK:=hI.k;have hgb:w.heap.size<=w3.heap.size+1:=by have:=hz3.out;omega
    have hDw:w.heap.size<=D:=lG hz5 hDl;have hmk:MkAt w.heap.size W tb (w3.heap.size+1) RV Z2 (mk0 T):=by
      refine⟨hgb,hM,?_,⟨rfl,.inl ⟨rfl,rfl⟩⟩,fun r hr=>?_⟩
      · have : (mk0 T).refs.length=(X6 T).length:=by unfold mk0;simp
        rw[this];exact hR
      · obtain⟨x,hx,rfl⟩:=lY.1 hr
        exact hitems.out.2 x hx
    clear hI hM hR;have hAB:=Z7b t0 tx;rw[<-hl.out] at hAB;obtain⟨hA,hB,hKd⟩:=hAB;have hrl:(X6 T).length=t0.length:=by unfold X6;rw[ht0.out,Z6v];simp
    have hfl:(Y2 T).length=t0.length:=by rw[ht0.out,Z6v]
    have h0l:t0.length<=1000:=by rw[ht0.out];exact hft
    have hok:=iD (Z48 T l hKd);have hll:l.length<=1000000:=by
      have:=Znn t0 tx;rw[<-hl.out] at this;omega
    replace hmk:=iD hmk;replace hK:=iD hK;replace hDD:=iD hDD;replace hKd:=iD hKd;replace hrl:=iD hrl;replace hfl:=iD hfl;dsimp only;go_wp2_with fail;go_loopw [41] (fun i wr=>∃ (m:Nat) (V':Value),m<=l.length/\i=.int .i64 (m:Int)/\MkAt w.heap.size wr tb (w3.heap.size+1) RV V' (K1 T l m)/\OpK w w5.heap.size w3.heap.size (.slice EA l.length ec) l wr/\wr.heap[D]?=some (.deferred (some []))) (fun i _=>l.length - (intOf i).toNat)
    case atStart=>exact⟨0,Z2,lR _,rfl,hmk.out,hK.out,hDD.out⟩
    case round =>
      obtain⟨m,V',hm,rfl,hst,hkr,hDr⟩:=hrel;obtain⟨OA,oc,rfl,_,_⟩:=Z6 hst.ops;by_cases hlt:m<l.length
      · have i1:(0:Int)<=(m:Int):=by omega
        have i2:(m:Int)<(l.length:Int):=by omega
        obtain⟨eg,rfl,q0,q1,q2⟩:=Zo1 hkr.E hlt;obtain⟨x,hx⟩:∃ x,x=l[m]:=⟨_,rfl⟩;have hmo:=hok.out m hm;have hkx:x.kind=1 ∨ x.kind=2 ∨ x.kind=3:=by rw[hx];exact hKd.out _ (lX hlt)
        have hstep:=Z79 T hlt;have hA1:=Zno l (m+1);have hB1:=Znp l (m+1);rw[lS hlt,G0] at hA1;rw[lS hlt,G1] at hB1;rw[<-hx] at q0 q1 q2 hstep hA1 hB1;unfold Z0 at q2;obtain⟨s,hs⟩:∃ s,s=K1 T l m:=⟨_,rfl⟩;rw[<-hs] at hst hstep;have m1:=hmo.refs;have m2:=hmo.at_;have m3:=hmo.kept;have m4:=hmo.ops;rw[<-hs] at m1 m2 m3 m4;have m5:s.refs.length=t0.length:=by rw[m1,lP,hrl.out]
        have hE3:edA [x]=if x.kind=3 then 0 else x.n:=by simp[edA]
        have hB3:edB [x]=if x.kind=3 then x.text.length else 0:=by simp[edB]
        rw[hE3] at hA1;rw[hB3] at hB1;clear hmo m1 hE3 hB3;replace hst:=iD hst;replace hkr:=iD hkr;replace hDr:=iD hDr;replace hstep:=iD hstep;replace hx:=iD hx;replace hs:=iD hs;replace m2:=iD m2;replace m5:=iD m5;have hkx':=iD hkx;clear hkx;go_wp2_with fail;generalize hW6:lN wr (lQ _ 144)=w6;have hb6:Below wr.heap.size wr w6:=by rw[<-hW6];exact bL
        have hX:Blk w6 wr.heap.size 144 [.int .i64 x.kind,.int .i64 (x.n:Int),.string ⟨x.text.toArray⟩]:=by rw[<-hW6];exact Blk.new_at (cs:=[_,_,_]) rfl
        have hst6:=iD (hst.out.calm hb6);have hk6:=iD (hkr.out.calm hb6);have hDr6:Hid (w6.heap[D]?=some (.deferred (some []))):=iD ((hb6.block D (On hDr.out)).trans hDr.out);have hz6:w.heap.size<=w6.heap.size:=hk6.out.below.size;have x0:w6.cell? ⟨wr.heap.size,0,none⟩=some (.int .i64 x.kind):=hX.cell 0;have x1:w6.cell? ⟨wr.heap.size,1,none⟩=some (.int .i64 (x.n:Int)):=hX.cell 1;have x2:w6.cell? ⟨wr.heap.size,2,none⟩=some (.string ⟨x.text.toArray⟩):=hX.cell 2;have hA1':x.kind ≠ 3->s.at_+x.n<=t0.length:=fun h3=>by
          rw[if_neg h3] at hA1;have:=m2.out;omega
        have hB1':x.kind=3->edB (l.take m)+x.text.length<=tx.length:=fun h3=>by
          rw[if_pos h3] at hB1;omega
        have hAt:edA (l.take m)<=t0.length/\edB (l.take m)<=tx.length:=⟨by omega,by omega⟩;have hgb':w.heap.size<=w3.heap.size+1:=hgb;have fin:Hid (∀ w7 V' s',MkAt w.heap.size w7 tb (w3.heap.size+1) RV V' s'->(∃ nq,Touch ((w3.heap.size+1) :: (lD OA s.ops.length oc).ownBlock.toList) (w6.drewN nq) w7)->K1 T l (m+1)=s' ->
            ∃ V',MkAt w.heap.size w7 tb (w3.heap.size+1) RV V' (K1 T l (m+1))/\OpK w w5.heap.size w3.heap.size (.slice (some ⟨eg,0,none⟩) l.length ec) l w7/\w7.heap[D]?=some (.deferred (some []))):=iD (by
          rintro w7 V' s' h7 ⟨nq,t7⟩ rfl;have hbq:Below w6.heap.size w6 (w6.drewN nq):=(Touch.drewN (L:=[]) nq).below (lA _) (fun _ hi=>by cases hi);have hsq:=hst6.out.calm hbq;have hkq:=hk6.out.calm hbq;have hDq:(w6.drewN nq).heap[D]?=some (.deferred (some [])):=hDr6.out;have hin:∀ i,i ∈ (w3.heap.size+1) :: (lD OA s.ops.length oc).ownBlock.toList->w.heap.size<=i/\((∃ cs,Blk (w6.drewN nq) i 259 cs) ∨ ∃ cs,Blk (w6.drewN nq) i 178 cs):=fun i hi=>by
            rcases lE.1 hi with e | hi
            · rw[e]
              exact⟨hgb',.inl ⟨_,hsq.box⟩⟩
            · have hi:=lH.1 hi
              exact⟨(hsq.ops.lt i hi).1,.inr (Q2 hsq.ops hi)⟩
          refine⟨V',h7,hkq.touch t7 (fun i hi=>?_),Gh t7 hDq (fun hm=>?_)⟩
          · obtain⟨h1,⟨cs,hB⟩ | ⟨cs,hB⟩⟩:=hin i hi
            · exact⟨h1,_,cs,hB,by decide,by decide⟩
            · exact⟨h1,_,cs,hB,by decide,by decide⟩
          · obtain⟨_,⟨cs,hB⟩ | ⟨cs,hB⟩⟩:=hin D hm <;> exact Uq hDq rfl hB)
        clear hW6 hb6 hX hst hkr hDr q0 q1 q2 hA1 hB1;rcases hkx'.out with hk1 | hk1 | hk1
        · rw[hk1] at x0
          have x3:w6.cell? ⟨w3.heap.size,1,none⟩=some (.func (.func 166) #[] #[]):=hk6.out.D.cell 1;have hcall:=iD (fun nq=>Zm2 w.heap.size tb (w3.heap.size+1) RV _ s x.n x.text 1 (by have:=hA1' (by rw[hk1];decide);omega) (w6.drewN nq) (hst6.out.calm ((Touch.drewN (L:=[]) nq).below (lA _) (fun _ hi=>by cases hi))));unfold Z0 at hcall;refine Ye 5 (by kernel_rfl) (by kernel_rfl) ?_;simp only[lI,lJ,lK,lL];repeat (first | go_big_quiet_step (fail))
          refine lB ?_;rintro _ ⟨nq,rfl⟩;go_wp2_with fail;refine (hcall.out nq).mono ?_;rintro e w7 ⟨rfl,h7,t7⟩;have t7':Touch ((w3.heap.size+1) :: (lD OA s.ops.length oc).ownBlock.toList) (w6.drewN nq) w7:=t7.mono (fun i hi=>.inl (by simp at hi;simp[hi]));obtain⟨V8,g1,g2,g3⟩:=fin.out w7 _ _ h7 ⟨nq,t7'⟩ (by rw[hstep.out];unfold Oz;rw[if_pos hk1]);replace g1:=iD g1;replace g2:=iD g2;replace g3:=iD g3;clear hcall x0 x1 x2 x3 h7 t7';go_wp2_with fail;refine⟨⟨m+1,V8,by omega,by go_num,g1.out,g2.out,g3.out⟩,by simp[intOf];omega⟩
        · rw[hk1] at x0
          have x3:w6.cell? ⟨w3.heap.size,2,none⟩=some (.func (.func 167) #[] #[]):=hk6.out.D.cell 2;have hcall:=iD (fun nq=>Zm5 w.heap.size tb (w3.heap.size+1) RV _ s x.n x.text 2 (by have:=hA1' (by rw[hk1];decide);have:=m5.out;omega) (by have:=m5.out;omega) (by have:=hA1' (by rw[hk1];decide);have:=m2.out;omega) (w6.drewN nq) (hst6.out.calm ((Touch.drewN (L:=[]) nq).below (lA _) (fun _ hi=>by cases hi))) (by simpa using hz6));unfold Z0 at hcall;refine Ye 5 (by kernel_rfl) (by kernel_rfl) ?_;simp only[lI,lJ,lK,lL];repeat (first | go_big_quiet_step (fail))
          refine lB ?_;rintro _ ⟨nq,rfl⟩;go_wp2_with fail;refine (hcall.out nq).mono ?_;rintro e w7 ⟨rfl,V7,h7,t7',_⟩;obtain⟨V8,g1,g2,g3⟩:=fin.out w7 _ _ h7 ⟨nq,t7'⟩ (by rw[hstep.out];unfold Oz;rw[if_neg (by rw[hk1];decide),if_pos hk1]);replace g1:=iD g1;replace g2:=iD g2;replace g3:=iD g3;clear hcall x0 x1 x2 x3 h7 t7';go_wp2_with fail;refine⟨⟨m+1,V8,by omega,by go_num,g1.out,g2.out,g3.out⟩,by simp[intOf];omega⟩
        · rw[hk1] at x0
          have x3:w6.cell? ⟨w3.heap.size,3,none⟩=some (.func (.func 168) #[] #[]):=hk6.out.D.cell 3;have hcall:=iD (fun nq=>Zm8 T hTk hnl base0 tb mb ab ps VT w.heap.size (w3.heap.size+1) RV _ s x.text (by have:=hB1' hk1;omega) 3 x.n (by have:=m2.out;have:=hfl.out;omega) (by have:=hB1' hk1;have:=m2.out;omega) (w6.drewN nq) ((hTB.out w6 hk6.out.below).drewN nq) (hst6.out.calm ((Touch.drewN (L:=[]) nq).below (lA _) (fun _ hi=>by cases hi))) (by simpa using hz6));unfold Z0 at hcall;refine Ye 5 (by kernel_rfl) (by kernel_rfl) ?_;simp only[lI,lJ,lK,lL];repeat (first | go_big_quiet_step (fail))
          refine lB ?_;rintro _ ⟨nq,rfl⟩;go_wp2_with fail;refine (hcall.out nq).mono ?_;rintro e w7 ⟨rfl,V7,h7,t7',_⟩;obtain⟨V8,g1,g2,g3⟩:=fin.out w7 _ _ h7 ⟨nq,t7'⟩ (by rw[hstep.out];unfold Oz;rw[if_neg (by rw[hk1];decide),if_neg (by rw[hk1];decide)]);replace g1:=iD g1;replace g2:=iD g2;replace g3:=iD g3;clear hcall x0 x1 x2 x3 h7 t7';go_wp2_with fail;refine⟨⟨m+1,V8,by omega,by go_num,g1.out,g2.out,g3.out⟩,by simp[intOf];omega⟩
      · have hmt:m=l.length:=by omega
        subst hmt;have hops:(K1 T l l.length).ops=Vm T tx:=by
          have:=Z7a T tx;rw[<-ht0.out,<-hl.out] at this;exact this
        have hrow:=hst.ops;have m4:Hid (wr.cell? ⟨w3.heap.size+1,4,none⟩=some (.slice OA (K1 T l l.length).ops.length oc)):=iD (hst.box.cell 4);have cO:=m4.out;rw[hops] at cO hrow;have hbe:=iD hkr.below;replace hrow:=iD hrow;replace hDr:=iD hDr;replace hops:=iD hops;clear hst hkr;rw[hops.out] at *;go_wp2_with fail;refine Zhj hDr.out _ (results_tmp2 rfl _ _ _) ⟨_,rfl,Z7c hrow.out hDr.out rfl _,hbe.out.grown (l8 wr D (.deferred none)) hbe.out.size (fun k e=>by cases e;exact hDw)⟩
end
end Go.Proofs.YtfdimggmljkkbaaGreatDoor
