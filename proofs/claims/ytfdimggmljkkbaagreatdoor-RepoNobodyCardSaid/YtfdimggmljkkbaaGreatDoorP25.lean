import Derived.Test.YtfdimggmljkkbaaGreatDoorP24
open Go renaming wpQuiet_nil → lF, wpList_load_mid → l7, wp_region_quiet_lit → nL
open Go.Instr renaming lookup → nK
open Go.Obj renaming cells → l6
open Go.Proofs.Tryz renaming prog → lG
open Go.RowKit.Below renaming refl → lE
open Go.Value renaming slice → lD, string → lT
open Go.World renaming alloc → lQ, setRow → l8
open List renaming getElem?_eq_some_iff → lB, getElem?_eq_getElem → lC, getElem_mem → lH, getElem?_append_left → lI, getElem?_append_right → lJ, length_append → lK, mem_cons → lN, getElem_of_mem → lO, drop_zero → lP, not_mem_nil → lR, take_succ_cons → lU, take_zero → lV, drop_succ_cons → lW, mem_of_getElem? → lY, flatten_cons → lZ, length_cons → l4, getElem?_take → l5, getElem?_set_self → l9, getElem?_set_ne → nA, getD_eq_getElem?_getD → nB, length_replicate → nC, append_assoc → nD, flatten_append → nE, length_take → nF, take_succ_eq_append_getElem → nG, map_cons → nH, map_nil → nI, length_map → nJ
open Nat renaming le_refl → lA, zero_le → lL, le_trans → lS, eq_or_lt_of_le → lX
open Option.some renaming inj → lM
namespace Go.Proofs.YtfdimggmljkkbaaGreatDoor
section
open Go.RowKit
def Km(d:Str):Str:=111 :: Xy d
theorem Zb4{d:Str}(h:d.length=32):Y1 (Km d)=true/\Km d ≠ Zc/\(Km d).length<=80:=by
 have hl:(Km d).length=65:=by show (Xy d).length+1=65;rw[Z0u,h]
 refine⟨by unfold Y1;simp[hl],fun e=>?_,by omega⟩;rw[e] at hl;exact absurd hl (by decide)
end
section

end
section
open Go.RowKit
theorem Z3x(N:List PNd):∀ (ds:List Str) (b:List Bool) (j:Nat),b[j]?=some true->(Y6 N b ds)[j]?=some true
 | [],_,_,h=>h
 | d :: ds,b,j,h=>by
  refine Z3x N ds (b.set (ixD N d) true) j ?_;have hj:=(lB.1 h).1;by_cases e:ixD N d=j
  ·rw[e,l9 hj]
  ·rw[nA e,h]
theorem Z3y(N:List PNd):∀ (ds:List Str) (b:List Bool) (d:Str),d ∈ ds->ixD N d<b.length->(Y6 N b ds)[ixD N d]?=some true
 | c :: ds,b,d,h,hl=>by
  rcases lN.1 h with rfl | h
  ·exact Z3x N ds _ _ (l9 hl)
  ·exact Z3y N ds (b.set (ixD N c) true) d h (by rw[List.length_set];exact hl)
theorem Z22(N:List PNd):∀ (ds:List Str) (b:List Bool) (j:Nat),(Y6 N b ds)[j]?=some true->b[j]?=some true ∨ ∃ d ∈ ds,ixD N d=j
 | [],_,_,h=>.inl h
 | d :: ds,b,j,h=>by
  rcases Z22 N ds (b.set (ixD N d) true) j h with h1 | ⟨e,he,h1⟩
  ·by_cases e:ixD N d=j
   ·exact .inr ⟨d,by simp,e⟩
   ·rw[nA e] at h1;exact .inl h1
  ·exact .inr ⟨e,by simp[he],h1⟩
theorem Qf{b:List Bool}{i:Nat}:b.getD i false=true ↔ b[i]?=some true:=by
 rw[nB];cases b[i]? with
 | none=>simp
 | some v=>simp
theorem Oy{N:List PNd}{i:Nat}{x:PNd}(h:N[i]?=some x):Vj N i=x.par:=by unfold Vj;rw[h];rfl
theorem Zcj(N:List PNd):∀ (i:Nat) (b:List Bool) (j:Nat),b[j]?=some true->(Xh N i b)[j]?=some true
 | 0,_,_,h=>h
 | i+1,b,j,h=>by
  rw[Xh];refine Zcj N i _ j ?_;split
  ·exact Z3x N _ _ _ h
  ·exact h
theorem Z3z{N:List PNd}(h:NdOk N){i:Nat}{x:PNd}(hx:N[i]?=some x){d:Str}(hd:d ∈ x.par):ixD N d<i:=by
 obtain⟨j,y,hj,hy,rfl⟩:=h.back i x hx d hd;rw[Kf h hy];exact hj
theorem Zck{N:List PNd}(hN:NdOk N):∀ (i:Nat) (b:List Bool),b.length=N.length->i<=N.length->(∀ (k:Nat) (x:PNd),i<=k->b[k]?=some true->N[k]?=some x->∀ d ∈ x.par,b[ixD N d]?=some true) ->
  ∀ (k:Nat) (x:PNd),(Xh N i b)[k]?=some true->N[k]?=some x->∀ d ∈ x.par,(Xh N i b)[ixD N d]?=some true
 | 0,b,_,_,h,k,x,hb,hx,d,hd=>h k x (lL _) hb hx d hd
 | i+1,b,hl,hi,h,k,x,hb,hx,d,hd=>by
  rw[Xh] at hb ⊢;refine Zck hN i _ ?_ (by omega) ?_ k x hb hx d hd
  ·split
   ·rw[Ot];exact hl
   ·exact hl
  ·intro k' x' hk hb' hx' d' hd';by_cases hbi:b.getD i false=true
   ·rw[if_pos hbi] at hb' ⊢;have hix:=Z3z hN hx' hd';have hkn:k'<N.length:=(lB.1 hx').1;rcases lX hk with rfl | hlt
    ·rw[Oy hx'];exact Z3y N _ _ _ hd' (by omega)
    ·refine Z3x N _ _ _ (h k' x' hlt ?_ hx' d' hd');have hii:i<N.length:=by omega
     have hxi:N[i]?=some N[i]:=lC hii;rw[Oy hxi,Z3u _ _ _ (fun e he=>by have:=Z3z hN hxi he;omega)] at hb';exact hb'
   ·rw[if_neg hbi] at hb' ⊢;rcases lX hk with rfl | hlt
    ·exact absurd (Qf.2 hb') hbi
    ·exact h k' x' hlt hb' hx' d' hd'
theorem Zcl{N:List PNd}(S:Nat->Prop)(hS:∀ (i:Nat) (x:PNd),S i->N[i]?=some x->∀ d ∈ x.par,S (ixD N d)):∀ (i:Nat) (b:List Bool),(∀ j,b[j]?=some true->S j)->∀ j,(Xh N i b)[j]?=some true->S j
 | 0,_,h,j,hj=>h j hj
 | i+1,b,h,j,hj=>by
  rw[Xh] at hj;refine Zcl S hS i _ (fun k hk=>?_) j hj;by_cases hbi:b.getD i false=true
  ·rw[if_pos hbi] at hk;rcases Z22 N _ _ _ hk with h1 | ⟨d,hd,rfl⟩
   ·exact h k h1
   ·cases hx:N[i]? with
    | none=>unfold Vj at hd;rw[hx] at hd;cases hd
    | some x =>
     rw[Oy hx] at hd;exact hS i x (h i (Qf.1 hbi)) hx d hd
  ·rw[if_neg hbi] at hk;exact h k hk
theorem Z71{N:List PNd}(_hN:NdOk N){ds:List Str}{d:Str}(hd:d ∈ ds)(h:ixD N d<N.length):(Zv N ds)[ixD N d]?=some true :=
 Zcj N _ _ _ (Z3y N _ _ _ hd (by rw[nC];exact h))
theorem Z23{N:List PNd}(hN:NdOk N)(ds:List Str){k:Nat}{x:PNd}(hb:(Zv N ds)[k]?=some true)(hx:N[k]?=some x){d:Str}(hd:d ∈ x.par):(Zv N ds)[ixD N d]?=some true :=
 Zck hN N.length _ (by rw[Ot,nC]) (lA _) (fun k x hk _ hx=>by have:=(lB.1 hx).1;omega) k x hb hx d hd
theorem Z72{N:List PNd}(ds:List Str)(S:Nat->Prop)(h1:∀ d ∈ ds,S (ixD N d))(hS:∀ (i:Nat) (x:PNd),S i->N[i]?=some x->∀ d ∈ x.par,S (ixD N d)){j:Nat}(hj:(Zv N ds)[j]?=some true):S j :=
 Zcl S hS _ _ (fun j hj=>by
  rcases Z22 N _ _ _ hj with h | ⟨d,hd,rfl⟩
  ·rw[List.getElem?_replicate] at h;split at h
   ·cases h
   ·cases h
  ·exact h1 d hd) j hj
def Ju(L:List PCom)(bs:List Bool):Nat->FT
 | 0=>J1
 | m+1=>match L[m]? with
  | none=>Ju L bs m
  | some c=>if bs.getD m false then U8 (Ju L bs m) (idC c) c.ops else Ju L bs m
theorem Zmm(T:FT)(id:Str)(i:Nat)(x:POp):(Q9 T id i x).added=T.added:=by
 unfold Q9;split
 ·rfl
 ·dsimp only;split <;> rfl
theorem Zcm(id:Str):∀ (l:List POp) (T:FT) (i:Nat),(Vc T id i l).added=T.added
 | [],_,_=>rfl
 | x :: l,T,i=>by rw[Vc,Zcm id l,Zmm]
theorem Zmn(T:FT)(id:Str)(l:List POp):(U8 T id l).added=T.added++[(id,l.length)]:=by
 unfold U8;rw[Zcm]
structure TrOk (L:List PCom) (bs:List Bool) (m:Nat) (T:FT):Prop where
 ok:FTok T
 added:∀ p ∈ T.added,∃ (j:Nat) (c:PCom),j<m/\L[j]?=some c/\p.1=idC c
 has:∀ (j:Nat) (c:PCom) (i:Nat) (x:POp),j<m->bs[j]?=some true->L[j]?=some c->c.ops[i]?=some x->x.kind=1->∃ k nd,0<k/\T.nodes[k]?=some nd/\nd.name=⟨false,idC c,((i+1:Nat):Int)⟩
 len:T.nodes.length<=1+2000*m
theorem Z73{L:List PCom}{bs:List Bool}{m:Nat}{c:PCom}(h:L[m]?=some c):Ju L bs (m+1)=if bs.getD m false then U8 (Ju L bs m) (idC c) c.ops else Ju L bs m:=by
 rw[Ju,h]
theorem Zcn{L:List PCom}(hH:HistOk L){i:Nat}{d:Str}(h:∃ (j:Nat) (y:PNd),(Z5 (L.take i))[j]?=some y/\y.id=d):ixD (Z5 (L.take i)) d=ixD (Z5 L) d:=by
 obtain⟨j,y,hj,rfl⟩:=h;rw[Kf (hH.nds i) hj];obtain⟨c,hc,rfl⟩:=Ks hj;rw[Kf hH.ndsAll (Kg (Qd hc).2)]
theorem Zco{L:List PCom}(hH:HistOk L)(ids:List Str){m:Nat}{c:PCom}{T:FT}(hc:L[m]?=some c)(hb:(Zv (Z5 L) ids)[m]?=some true)(hT:TrOk L (Zv (Z5 L) ids) m T):OpsOk T (idC c) c.ops:=by
 have hn:=hH.next m c hc;have hml:=(lB.1 hc).1;have h200:=hH.len;refine⟨Q0 c,fun p hp he=>?_,hn.may.ops,?_,hn.fit.ops,hn.may.right,fun x hx ho hr=>?_⟩
 ·obtain⟨j,e,hj,he',hp'⟩:=hT.added p hp;exact hn.new (Jc e) (lY (Kg (Z20 hj he'))) (hp'.symm.trans he)
 ·have:=hT.len;have:=hn.may.ops;omega
 ·obtain⟨i,hi,hxi⟩:=lO hx;have hx':c.ops[i]?=some x:=by rw[lC hi,hxi]
  obtain⟨hr1,_,_⟩:=Ut (hn.may.right i hi) hx';obtain⟨hn1,_⟩:=Z6f hr1 ho hr;obtain⟨k,m',y,cc,z,h1,h2,h3,h4,h5,h6,h7⟩:=hn.far i x hx' ho (by omega);obtain⟨e,he,rfl⟩:=Ks h1;obtain⟨hkm,hke⟩:=Qd he;obtain rfl:e=cc:=by rw[hke] at h4;exact lM h4
  have hbk:(Zv (Z5 L) ids)[k]?=some true:=by
   refine Z72 c.parents (fun j=>(Zv (Z5 L) ids)[j]?=some true) (fun d hd=>?_) (fun j x' hj hx' d hd=>?_) h3
   ·show (Zv (Z5 L) ids)[ixD (Z5 (L.take m)) d]?=some true;rw[Zcn hH (hn.par d hd)];exact Z23 hH.ndsAll ids hb (Kg hc) hd
   ·show (Zv (Z5 L) ids)[ixD (Z5 (L.take m)) d]?=some true;obtain⟨e',he',rfl⟩:=Ks hx';obtain⟨hjm,hje⟩:=Qd he';obtain⟨j',y',hj',hy',hyd⟩:=(hH.nds m).back j _ hx' d hd;rw[Zcn hH ⟨j',y',hy',hyd⟩];exact Z23 hH.ndsAll ids hj (Kg hje) hd
  obtain⟨k',nd,h8,h9,h10⟩:=hT.has k e m' z hkm hbk hke h5 h6;refine⟨k',nd,h8,h9,?_⟩;rw[h10];rcases x with ⟨xk,xl,⟨xo,xc,xn⟩,xb⟩;simp only at ho h2 h7;subst ho;rw[h7,<-h2];rfl
theorem Z74{L:List PCom}(hH:HistOk L)(ids:List Str):∀ m,m<=L.length->TrOk L (Zv (Z5 L) ids) m (Ju L (Zv (Z5 L) ids) m)
 | 0,_=>⟨FTok.new,(fun p hp=>by cases hp),(fun j c i x hj=>absurd hj (Nat.not_lt_zero _)),by show 1<=1;omega⟩
 | m+1,hm=>by
  have ih:=Z74 hH ids m (by omega);have hc:L[m]?=some L[m]:=lC (by omega);obtain⟨c,hce⟩:∃ c,c=L[m]:=⟨_,rfl⟩;rw[<-hce] at hc;rw[Z73 hc];by_cases hb:(Zv (Z5 L) ids).getD m false=true
  ·rw[if_pos hb];have hb':=Qf.1 hb;have ho:=Zco hH ids hc hb' ih;have ha:=Z6g ih.ok ho c.ops.length (lA _);rw[Zba] at ha;refine⟨ha.ok,fun p hp=>?_,fun j e i x hj hbj hje hx hk=>?_,?_⟩
   ·rw[Zmn] at hp;rcases List.mem_append.1 hp with hp | hp
    ·obtain⟨j,e,h1,h2,h3⟩:=ih.added p hp;exact⟨j,e,by omega,h2,h3⟩
    ·obtain rfl:p=_:=by simpa using hp
     exact⟨m,c,by omega,hc,rfl⟩
   ·by_cases hjm:j=m
    ·subst hjm;obtain rfl:c=e:=by rw[hc] at hje;exact lM hje
     exact ha.done i x (lB.1 hx).1 hx hk
    ·obtain⟨k,nd,h1,h2,h3⟩:=ih.has j e i x (by omega) hbj hje hx hk;obtain⟨nd',h4,h5⟩:=ha.old k nd h2;exact⟨k,nd',h1,h4,h5.trans h3⟩
   ·have:=ha.len;have:=ih.len;have:=ho.len;omega
  ·rw[if_neg hb];refine⟨ih.ok,fun p hp=>?_,fun j e i x hj hbj hje hx hk=>?_,by have:=ih.len;omega⟩
   ·obtain⟨j,e,h1,h2,h3⟩:=ih.added p hp;exact⟨j,e,by omega,h2,h3⟩
   ·refine ih.has j e i x ?_ hbj hje hx hk;rcases Nat.lt_or_ge j m with h | h
    ·exact h
    ·exact absurd (Qf.2 (by rwa [show j=m by omega] at hbj)) hb
def J2(L:List PCom)(ids:List Str):FT:=Ju L (Zv (Z5 L) ids) L.length
theorem Z40{L:List PCom}(hH:HistOk L)(ids:List Str):FTok (J2 L ids)/\(J2 L ids).nodes.length<=400001:=by
 have h:=Z74 hH ids L.length (lA _);have:=hH.len;have:=h.len;exact⟨h.ok,by unfold J2;omega⟩
end
section
open Go.RowKit
theorem NextOk.list{N:List PNd}{L M:List PCom}{c:PCom}(h:NextOk N L c)(e:∀ (k:Nat) (cc:PCom),k<N.length->L[k]?=some cc->M[k]?=some cc):NextOk N M c :=
 ⟨h.fit,h.may,h.new,h.par,fun i x hx ho hn=>by
  obtain⟨k,m,y,cc,z,h1,h2,h3,h4,h5,h6,h7⟩:=h.far i x hx ho hn;exact⟨k,m,y,cc,z,h1,h2,h3,e k cc (lB.1 h1).1 h4,h5,h6,h7⟩⟩
theorem HistOk.nil:HistOk []:=⟨by simp,fun i c h=>by simp at h⟩
theorem Zcp{L M:List PCom}{k:Nat}{c:PCom}(h:L[k]?=some c):(L++M)[k]?=some c:=by
 rw[lI (lB.1 h).1,h]
theorem HistOk.snoc{L:List PCom}{c:PCom}(h:HistOk L)(hl:L.length<200)(hc:NextOk (Z5 L) L c):HistOk (L++[c]):=by
 refine⟨by simp;omega,fun i e he=>?_⟩;by_cases hi:i<L.length
 ·rw[lI hi] at he;rw[List.take_append_of_le_length (by omega)];exact (h.next i e he).list (fun k cc _ hcc=>Zcp hcc)
 ·have hi':i=L.length:=by
   have:=(lB.1 he).1;simp at this;omega
  subst hi';rw[lJ (lA _)] at he;obtain rfl:c=e:=by simpa using he
  rw[List.take_left']
  ·exact hc.list (fun k cc _ hcc=>Zcp hcc)
  ·rfl
def Yb(L:List PCom)(b:List Bool):Nat->List PCom
 | 0=>[]
 | m+1=>Yb L b m++(match L[m]? with | some c=>if b.getD m false then [c] else [] | none=>[])
theorem Z41{L:List PCom}{b:List Bool}{m:Nat}{c:PCom}(h:L[m]?=some c)(hb:b[m]?=some true):Yb L b (m+1)=Yb L b m++[c]:=by
 rw[Yb,h];simp only;rw[if_pos (Qf.2 hb)]
theorem Z75{L:List PCom}{b:List Bool}{m:Nat}(hb:¬ b[m]?=some true):Yb L b (m+1)=Yb L b m:=by
 rw[Yb];cases L[m]? with
 | none=>simp
 | some c =>
  simp only;rw[if_neg (fun h=>hb (Qf.1 h)),List.append_nil]
theorem Zcq(L:List PCom)(b:List Bool):∀ m,(Yb L b m).length<=m
 | 0=>lA _
 | m+1=>by
  have ih:=Zcq L b m;rw[Yb,lK];cases L[m]? with
  | none=>simp;omega
  | some c =>
   simp only;split <;> simp <;> omega
theorem Zcr(L:List PCom)(b:List Bool)(m:Nat):∀ n,m<=n->∃ r,Yb L b n=Yb L b m++r
 | 0,h=>⟨[],by rw[show m=0 by omega];simp⟩
 | n+1,h=>by
  rcases lX h with rfl | h
  ·exact⟨[],by simp⟩
  ·obtain⟨r,hr⟩:=Zcr L b m n (by omega);exact⟨r++_,by rw[Yb,hr,nD]⟩
theorem Z76{L:List PCom}{b:List Bool}{j m:Nat}{c:PCom}(hj:j<m)(h:L[j]?=some c)(hb:b[j]?=some true):(Yb L b m)[(Yb L b j).length]?=some c:=by
 obtain⟨r,hr⟩:=Zcr L b (j+1) m (by omega);rw[hr,Z41 h hb,nD,lJ (lA _)];simp
theorem Z42{L:List PCom}{b:List Bool}:∀ (m p:Nat) (c:PCom),(Yb L b m)[p]?=some c->∃ j,j<m/\L[j]?=some c/\b[j]?=some true/\p=(Yb L b j).length
 | 0,p,c,h=>by simp[Yb] at h
 | m+1,p,c,h=>by
  by_cases hb:b[m]?=some true
  ·cases hc:L[m]? with
   | none =>
    have e:Yb L b (m+1)=Yb L b m:=by rw[Yb,hc];simp
    rw[e] at h;obtain⟨j,h1,h2⟩:=Z42 m p c h;exact⟨j,by omega,h2⟩
   | some e =>
    rw[Z41 hc hb] at h;by_cases hp:p<(Yb L b m).length
    ·rw[lI hp] at h;obtain⟨j,h1,h2⟩:=Z42 m p c h;exact⟨j,by omega,h2⟩
    ·rw[lJ (by omega)] at h;have hl:=(lB.1 h).1;simp at hl;have hp':p=(Yb L b m).length:=by omega
     subst hp';obtain rfl:e=c:=by simpa using h
     exact⟨m,by omega,hc,hb,rfl⟩
  ·rw[Z75 hb] at h;obtain⟨j,h1,h2⟩:=Z42 m p c h;exact⟨j,by omega,h2⟩
theorem Zmo{L:List PCom}{b:List Bool}{m:Nat}{c:PCom}(h:c ∈ Yb L b m):∃ j,j<m/\L[j]?=some c/\b[j]?=some true:=by
 obtain⟨p,hp,e⟩:=lO h;obtain⟨j,h1,h2,h3,_⟩:=Z42 m p c (by rw[lC hp,e]);exact⟨j,h1,h2,h3⟩
def Zmp(N:List PNd)(b:List Bool):Prop:=∀ (k:Nat) (x:PNd),b[k]?=some true->N[k]?=some x->∀ d ∈ x.par,b[ixD N d]?=some true
theorem Zcs{L:List PCom}(hH:HistOk L)(b:List Bool)(hcl:Zmp (Z5 L) b):∀ m,m<=L.length->HistOk (Yb L b m)
 | 0,_=>HistOk.nil
 | m+1,hm=>by
  have ih:=Zcs hH b hcl m (by omega);have hc:L[m]?=some L[m]:=lC (by omega);obtain⟨c,hce⟩:∃ c,c=L[m]:=⟨_,rfl⟩;rw[<-hce] at hc;by_cases hb:b[m]?=some true
  ·rw[Z41 hc hb];have hlen:=hH.len;have hpl:=Zcq L b m;refine ih.snoc (by omega) ?_;have hn:=hH.next m c hc;have hix:∀ (j:Nat) (e:PCom),L[j]?=some e->ixD (Z5 L) (idC e)=j:=fun j e he=>Kf hH.ndsAll (Kg he);have hixm:∀ (j:Nat) (e:PCom),j<m->L[j]?=some e->ixD (Z5 (L.take m)) (idC e)=j:=fun j e hj he=>Kf (hH.nds m) (Kg (Z20 hj he));have hat:∀ (j:Nat) (e:PCom),j<m->L[j]?=some e->b[j]?=some true->(Z5 (Yb L b m))[(Yb L b j).length]?=some (Jc e):=fun j e hj he hbj=>Kg (Z76 hj he hbj);have hixp:∀ (j:Nat) (e:PCom),j<m->L[j]?=some e->b[j]?=some true->ixD (Z5 (Yb L b m)) (idC e)=(Yb L b j).length:=fun j e hj he hbj=>Kf ih.ndsAll (hat j e hj he hbj);have hpar:∀ d ∈ c.parents,∃ (j:Nat) (e:PCom),j<m/\L[j]?=some e/\b[j]?=some true/\idC e=d:=fun d hd=>by
    obtain⟨j,y,hj,hy⟩:=hn.par d hd;obtain⟨e,he,rfl⟩:=Ks hj;obtain⟨hjm,hje⟩:=Qd he;have:=hcl m (Jc c) hb (Kg hc) d hd;rw[<-hy,show (Jc e).id=idC e from rfl,hix j e hje] at this;exact⟨j,e,hjm,hje,this,hy⟩
   refine⟨hn.fit,hn.may,fun x hx=>?_,fun d hd=>?_,fun i x hx ho h0=>?_⟩
   ·obtain⟨q,hq,e⟩:=lO hx;obtain⟨y,hy,rfl⟩:=Ks (by rw[lC hq,e]:(Z5 (Yb L b m))[q]?=some x);obtain⟨j,hj,hje,_⟩:=Zmo (lY hy);exact hn.new (Jc y) (lY (Kg (Z20 hj hje)))
   ·obtain⟨j,e,hj,he,hbj,hd'⟩:=hpar d hd;exact⟨_,_,hat j e hj he hbj,hd'⟩
   ·obtain⟨k,q,y,cc,z,h1,h2,h3,h4,h5,h6,h7⟩:=hn.far i x hx ho h0;obtain⟨e,he,rfl⟩:=Ks h1;obtain⟨hkm,hke⟩:=Qd he;obtain rfl:e=cc:=by rw[hke] at h4;exact lM h4
    have hS:=Z72 (N:=Z5 (L.take m)) c.parents (fun j=>j<m/\b[j]?=some true/\(Zv (Z5 (Yb L b m)) c.parents)[(Yb L b j).length]?=some true) (fun d hd=>?_) (fun j x' hj hx' d hd=>?_) h3
    ·obtain⟨_,hbk,hbn⟩:=hS;exact⟨_,q,_,e,z,hat k e hkm hke hbk,h2,hbn,Z76 hkm hke hbk,h5,h6,h7⟩
    ·obtain⟨j,e',hj,he',hbj,rfl⟩:=hpar d hd;rw[hixm j e' hj he'];refine⟨hj,hbj,?_⟩;rw[<-hixp j e' hj he' hbj];exact Z71 ih.ndsAll hd (by rw[hixp j e' hj he' hbj];exact (lB.1 (hat j e' hj he' hbj)).1)
    ·obtain⟨e',he',rfl⟩:=Ks hx';obtain⟨hjm,hje⟩:=Qd he';obtain⟨_,hbj,hbn⟩:=hj;obtain⟨j',y',hj',hy',hyd⟩:=(hH.nds m).back j _ hx' d hd;obtain⟨e'',he'',rfl⟩:=Ks hy';obtain⟨hjm',hje'⟩:=Qd he'';have hyd':idC e''=d:=hyd;subst hyd';rw[hixm j' e'' hjm' hje'];have hb':=hcl j (Jc e') hbj (Kg hje) _ hd;rw[hix j' e'' hje'] at hb';refine⟨hjm',hb',?_⟩;rw[<-hixp j' e'' hjm' hje' hb'];exact Z23 ih.ndsAll c.parents hbn (hat j e' hjm hje hbj) hd
  ·rw[Z75 hb];exact ih
def InN(N:List PNd)(ds:List Str):Prop:=∀ d ∈ ds,∃ (j:Nat) (y:PNd),N[j]?=some y/\y.id=d
def Zi(L:List PCom)(hs:List Str):List PCom:=Yb L (Zv (Z5 L) hs) L.length
theorem HistOk.past{L:List PCom}(hH:HistOk L)(hs:List Str):HistOk (Zi L hs) :=
 Zcs hH _ (fun _ _ hb hx _ hd=>Z23 hH.ndsAll hs hb hx hd) _ (lA _)
theorem Zct{L:List PCom}(hH:HistOk L){hs:List Str}{d:Str}(hd:d ∈ hs)(hi:∃ (j:Nat) (y:PNd),(Z5 L)[j]?=some y/\y.id=d):∃ (j:Nat) (y:PNd),(Z5 (Zi L hs))[j]?=some y/\y.id=d:=by
 obtain⟨j,y,hj,rfl⟩:=hi;obtain⟨e,he,rfl⟩:=Ks hj;have hix:=Kf hH.ndsAll hj;have hb:=Z71 hH.ndsAll hd (by rw[hix];exact (lB.1 hj).1);rw[hix] at hb;exact⟨_,_,Kg (Z76 (lB.1 he).1 he hb),rfl⟩
theorem Zcu{N:List PNd}(hN:NdOk N):∀ (i:Nat) (b:List Bool) (k:Nat),i<=k->(Xh N i b)[k]?=b[k]?
 | 0,_,_,_=>rfl
 | i+1,b,k,hk=>by
  rw[Xh,Zcu hN i _ k (by omega)];split
  ·refine Z3u _ _ _ (fun d hd=>?_);cases hx:N[i]? with
   | none=>unfold Vj at hd;rw[hx] at hd;cases hd
   | some x =>
    rw[Oy hx] at hd;have:=Z3z hN hx hd;omega
  ·rfl
theorem Zmq{N:List PNd}(hN:NdOk N)(i:Nat)(b:List Bool):(Xh N (i+1) b)[i]?=b[i]?:=by
 rw[Xh,Zcu hN i _ i (lA _)];split
 ·refine Z3u _ _ _ (fun d hd=>?_);cases hx:N[i]? with
  | none=>unfold Vj at hd;rw[hx] at hd;cases hd
  | some x =>
   rw[Oy hx] at hd;have:=Z3z hN hx hd;omega
 ·rfl
end
section
open Go.RowKit
theorem Z24:∀ (xs:List (List Value)),(∀ cs ∈ xs,cs.length=4)->xs.flatten.length=xs.length*4
 | [],_=>rfl
 | x :: xs,h=>by
  rw[lZ,lK,Z24 xs (fun c hc=>h c (by simp[hc])),h x (by simp),l4];omega
theorem Z43:∀ (xs:List (List Value)) (i j:Nat) (cs:List Value) (u:Value),(∀ cs ∈ xs,cs.length=4)->xs[i]?=some cs->cs[j]?=some u->xs.flatten[i*4+j]?=some u
 | [],i,j,cs,u,_,h,_=>by simp at h
 | x :: xs,0,j,cs,u,_,h,hj=>by
  obtain rfl:x=cs:=by simpa using h
  rw[lZ,lI (by have:=(lB.1 hj).1;omega)];simpa using hj
 | x :: xs,i+1,j,cs,u,h4,h,hj=>by
  have hx:=h4 x (by simp);rw[lZ,lJ (by omega),show (i+1)*4+j - x.length=i*4+j by omega];exact Z43 xs i j cs u (fun c hc=>h4 c (by simp[hc])) (by simpa using h) hj
theorem Y8.four{w:World}{ok:Nat->Prop}{cs:List Value}{c:PCom}(h:Y8 w ok cs c):cs.length=4:=by
 obtain⟨p,o,rfl,_⟩:=h;rfl
def Y7(w:World)(ok:Nat->Prop)(xs:List (List Value))(L:List PCom):Prop:=xs.length=L.length/\∀ (i:Nat) (c:PCom) (cs:List Value),L[i]?=some c->xs[i]?=some cs->Y8 w ok cs c
theorem Y7.four{w:World}{ok:Nat->Prop}{xs:List (List Value)}{L:List PCom}(h:Y7 w ok xs L):∀ cs ∈ xs,cs.length=4:=fun cs hc=>by
 obtain⟨i,hi,rfl⟩:=lO hc;have hl:i<L.length:=by rw[<-h.1];exact hi
 exact (h.2 i L[i] xs[i] (lC hl) (lC hi)).four
theorem Y7.nil{w:World}{ok:Nat->Prop}:Y7 w ok [] []:=⟨rfl,fun i c cs h _=>by simp at h⟩
theorem Y7.app{w:World}{ok:Nat->Prop}{xs ys:List (List Value)}{L M:List PCom}(h:Y7 w ok xs L)(k:Y7 w ok ys M):Y7 w ok (xs++ys) (L++M):=by
 refine⟨by rw[lK,lK,h.1,k.1],fun i c cs hc hx=>?_⟩;by_cases hi:i<L.length
 ·rw[lI hi] at hc;rw[lI (by rw[h.1];exact hi)] at hx;exact h.2 i c cs hc hx
 ·rw[lJ (by omega)] at hc;rw[lJ (by rw[h.1];omega),h.1] at hx;exact k.2 _ c cs hc hx
theorem Y7.one{w:World}{ok:Nat->Prop}{cs:List Value}{c:PCom}(h:Y8 w ok cs c):Y7 w ok [cs] [c] :=
 ⟨rfl,fun i d es hd he=>by
  rcases i with _ | i
  ·obtain rfl:c=d:=by simpa using hd
   obtain rfl:cs=es:=by simpa using he
   exact h
  ·simp at hd⟩
theorem Y7.stay{w w':World}{ok ok':Nat->Prop}{xs:List (List Value)}{L:List PCom}(h:Y7 w ok xs L)(hk:∀ b,ok b->b<w.heap.size->w'.heap[b]?=w.heap[b]?)(ho:∀ b,ok b->b<w.heap.size->ok' b):Y7 w' ok' xs L :=
 ⟨h.1,fun i c cs hc hx=>(h.2 i c cs hc hx).stay hk ho⟩
theorem Y7.stayB{w w':World}{ok:Nat->Prop}{xs:List (List Value)}{L:List PCom}(h:Y7 w ok xs L)(hb:Below w.heap.size w w'):Y7 w' ok xs L:=h.stay (fun b _ hlt=>hb.block b hlt) (fun _ h _=>h)
theorem Y8.one_{w:World}{ok:Nat->Prop}{cs:List Value}{c:PCom}(h:Y8 w ok cs c):∀ v ∈ cs,v.oneCell'=true:=by
 obtain⟨p,o,rfl,⟨A,k,rfl,_⟩,⟨A',k',rfl,_⟩⟩:=h;intro v hv;simp only[lN,lR,or_false] at hv;rcases hv with rfl | rfl | rfl | rfl <;> rfl
theorem Y7.one_{w:World}{ok:Nat->Prop}{xs:List (List Value)}{L:List PCom}(h:Y7 w ok xs L):∀ v ∈ xs.flatten,v.oneCell'=true:=fun v hv=>by
 obtain⟨cs,hc,hv⟩:=List.mem_flatten.1 hv;obtain⟨i,hi,rfl⟩:=lO hc;have hl:i<L.length:=by rw[<-h.1];exact hi
 exact (h.2 i L[i] xs[i] (lC hl) (lC hi)).one_ v hv
def Yh(w:World)(lo:Nat)(ok:Nat->Prop)(v:Value)(L:List PCom):Prop:=∃ xs,Y7 w ok xs L/\w.ownsRow lo 82 4 v L.length xs.flatten
theorem Yh.nil{w:World}{lo:Nat}{ok:Nat->Prop}:Yh w lo ok Z2 []:=⟨[],Y7.nil,rfl,.inl ⟨rfl,rfl⟩⟩
theorem Yh.form{w:World}{lo:Nat}{ok:Nat->Prop}{v:Value}{L:List PCom}(h:Yh w lo ok v L):∃ A c,v=.slice A L.length c:=by
 obtain⟨xs,_,ho⟩:=h;obtain⟨A,c,e,_⟩:=Z6 ho;exact⟨A,c,e⟩
theorem Yh.lower{w:World}{lo lo':Nat}{ok:Nat->Prop}{v:Value}{L:List PCom}(hl:lo'<=lo)(h:Yh w lo ok v L):Yh w lo' ok v L:=by
 obtain⟨xs,hx,ho⟩:=h;exact⟨xs,hx,Oh hl ho⟩
theorem Yh.weak{w:World}{lo:Nat}{ok ok':Nat->Prop}{v:Value}{L:List PCom}(hl:∀ b,ok b->b<w.heap.size->ok' b)(h:Yh w lo ok v L):Yh w lo ok' v L:=by
 obtain⟨xs,hx,ho⟩:=h;exact⟨xs,hx.stay (fun _ _ _=>rfl) hl,ho⟩
theorem Yh.at{w:World}{lo:Nat}{ok:Nat->Prop}{v:Value}{L:List PCom}(h:Yh w lo ok v L){i:Nat}{c:PCom}(hc:L[i]?=some c):∃ g cap cs cur,v=.slice (some ⟨g,0,none⟩) L.length cap/\lo<=g/\Blk w g 82 cur/\Y8 w ok cs c/\∀ j u,cs[j]?=some u->cur[i*4+j]?=some u:=by
 obtain⟨xs,hx,h1,h2⟩:=h;have hi:=(lB.1 hc).1;have hil:i<xs.length:=by rw[hx.1];exact hi
 have hxi:xs[i]?=some xs[i]:=lC hil;rcases h2 with ⟨_,h0⟩ | ⟨g,cap,cur,rfl,hg,hB,hn,hm,hs,ht⟩
 ·omega
 ·refine⟨g,cap,xs[i],cur.toList,rfl,hg,by unfold Blk;simpa using hB,hx.2 i c _ hc hxi,fun j u hu=>?_⟩;have hfa:=Z43 xs i j xs[i] u hx.four hxi hu;rw[<-ht,l5] at hfa;split at hfa
  ·exact hfa
  ·cases hfa
theorem Yh.csis{w:World}{lo:Nat}{ok ok':Nat->Prop}{v:Value}{L:List PCom}(h:Yh w lo ok v L)(hr:∀ b cs,lo<=b->Blk w b 82 cs->ok' b)(hl:∀ b,ok b->b<w.heap.size->ok' b):CsIs w ok' v L:=by
 obtain⟨A,cap,e⟩:=h.form;refine⟨A,cap,e,fun i c hc=>?_⟩;obtain⟨g,cap',cs,cur,e',hlog,hB,hC,hat⟩:=h.at hc;rw[e] at e'
 injection e' with e1 _ _
 refine⟨g,0,cs,e1,hr g cur hlog hB,hB.lt,hC.stay (fun _ _ _=>rfl) hl,fun j u hu=>?_⟩;rw[Nat.zero_add,hB.cell];exact hat j u hu
theorem Zcv{w:World}{b:Nat}{cs:List Value}(h:Blk w b 82 cs):Fr w b:=⟨_,cs,h,by decide,by decide,by decide,by decide⟩
theorem Yh.keepB{w w':World}{lo:Nat}{ok:Nat->Prop}{v:Value}{L:List PCom}(h:Yh w lo ok v L)(hb:Below w.heap.size w w'):Yh w' lo ok v L:=by
 obtain⟨xs,hx,ho⟩:=h;exact⟨xs,hx.stayB hb,Zk (L:=[]) ho (Touch.ofBelow hb) (by simp)⟩
theorem Yh.app{w':World}{lo:Nat}{ok:Nat->Prop}{v':Value}{L M:List PCom}{xs ys:List (List Value)}(hx:Y7 w' ok xs L)(hy:Y7 w' ok ys M)(h:w'.ownsRow lo 82 4 v' (L.length+M.length) (xs.flatten++ys.flatten)):Yh w' lo ok v' (L++M) :=
 ⟨xs++ys,hx.app hy,by rw[lK,nE];exact h⟩
theorem CsIs.rd{w:World}{ok:Nat->Prop}{v:Value}{L:List PCom}(h:CsIs w ok v L):∃ A cap xs,v=.slice A L.length cap/\Y7 w ok xs L/\Rd w ok A xs.flatten:=by
 obtain⟨A,cap,e,hrow⟩:=h.row;have key:∀ m,m<=L.length->∃ xs,Y7 w ok xs (L.take m)/\∀ (i:Nat) (cs:List Value),xs[i]?=some cs->∃ b o,A=some ⟨b,o,none⟩/\ok b/\∀ j u,cs[j]?=some u->w.cell? ⟨b,o+i*4+j,none⟩=some u:=by
  intro m;induction m with
  | zero=>exact fun _=>⟨[],Y7.nil,fun i cs h=>by simp at h⟩
  | succ m ih =>
   intro hm;obtain⟨xs,hx,hc⟩:=ih (by omega);have hL:L[m]?=some L[m]:=lC (by omega);obtain⟨b,o,cs,e1,e2,e3,e4,e5⟩:=hrow m L[m] hL;have hxl:xs.length=m:=by rw[hx.1,nF];omega
   refine⟨xs++[cs],?_,fun i es hes=>?_⟩
   ·rw[nG (by omega)];exact hx.app (Y7.one e4)
   ·by_cases hi:i<xs.length
    ·rw[lI hi] at hes;exact hc i es hes
    ·rw[lJ (by omega)] at hes;have hl:=(lB.1 hes).1;simp at hl;have hi':i=m:=by omega
     subst hi';have he0:i - xs.length=0:=by omega
     rw[he0] at hes;obtain rfl:cs=es:=by simpa using hes
     exact⟨b,o,e1,e2,e5⟩
 obtain⟨xs,hx,hc⟩:=key L.length (lA _);rw[List.take_length] at hx;refine⟨A,cap,xs,e,hx,fun hp=>?_⟩;have h4:=Z24 xs hx.four;have hp0:0<xs.length:=by omega
 obtain⟨b,o,rfl,hb,_⟩:=hc 0 xs[0] (lC hp0);refine⟨_,rfl,hb,fun j u hu=>?_⟩;have hj:=(lB.1 hu).1;have hq:j / 4<xs.length:=by omega
 have hxq:xs[j / 4]?=some xs[j / 4]:=lC hq;have hl4:=hx.four xs[j / 4] (lH hq);have hu':xs[j / 4][j % 4]?=some xs[j / 4][j % 4]:=lC (by omega);have hfa:=Z43 xs (j / 4) (j % 4) _ _ hx.four hxq hu';rw[show j / 4*4+j % 4=j by omega,hu] at hfa;obtain⟨b',o',e',_,hcell⟩:=hc (j / 4) _ hxq;cases e'
 have:=hcell _ _ hu';rw[Xj,hfa];rw[show o+j / 4*4+j % 4=o+j by omega] at this;exact this
def Zb(T:Tab):List Str:=T.flatMap (·.heads)
structure RpOk (L:List PCom) (T:Tab):Prop where
 hist:HistOk L
 has:InN (Z5 L) (Zb T)
 may:Yu T=0
 ok:tOk T
theorem RpOk.bok{L:List PCom}{T:Tab}(h:RpOk L T):T.length<=32/\(∀ b ∈ T,bOk b)/\sorted T:=(O7 T).1 h.may
theorem Z25{l:List Str}(h:Ym l=0):l.length<=8/\rises l=true:=by
 unfold Ym at h;split at h
 ·cases h
 ·split at h
  ·exact⟨by omega,by assumption⟩
  ·cases h
theorem RpOk.fit{L:List PCom}{T:Tab}(h:RpOk L T):TFit T:=by
 obtain⟨h1,h2,_⟩:=h.bok;refine⟨by omega,fun b hb=>?_⟩;obtain⟨n,_,e⟩:=h2 b hb;have:=(Z25 e).1;exact⟨by have:=nmOk_len' n;omega,by omega,h.ok b hb⟩
theorem Zcw:∀ (T:Tab),(∀ b ∈ T,b.heads.length<=8)->(T.flatMap (·.heads)).length<=T.length*8
 | [],_=>lA _
 | b :: T,h=>by
  have h1:=Zcw T (fun c hc=>h c (by simp[hc]));have h2:=h b (by simp);rw[List.flatMap_cons,lK,l4];omega
theorem RpOk.len{L:List PCom}{T:Tab}(h:RpOk L T):(Zb T).length<=256:=by
 obtain⟨h1,h2,_⟩:=h.bok;have:=Zcw T (fun b hb=>(Z25 (h2 b hb).2.2).1);unfold Zb;omega
theorem RpOk.hok{L:List PCom}{T:Tab}(h:RpOk L T):hOk (Zb T):=fun d hd=>by
 obtain⟨b,hb,hd⟩:=List.mem_flatMap.1 hd;exact h.ok b hb d hd
def FrX(X:Nat->Prop)(W:World)(b:Nat):Prop:=Fr W b/\¬ X b
structure RpM (X:Nat->Prop) (w0:World) (base:Nat->Prop) (r rb g by_:Nat) (ra:Str) (br rbr:Bool) (L:List PCom) (T:Tab) (S:DS) (W:World):Prop where
 bel:Stay base w0 W
 size:∀ i,W.heap.size<=i->base i
 low:base r/\base rb/\base by_
 repo:∃ LV,Blk W r 32 (Xv LV by_ rb g ra br)/\CsIs W (FrX X W) LV L
 map:Zg W by_ (byN (Z5 L))
 refs:∃ v,Blk W rb 164 [.pointer (some ⟨g,0,none⟩),v,.bool rbr]/\TabIs W (FrX X W) v T
 disk:∃ Lf,J4 W Lf g S/\(∀ i ∈ Lf,base i)/\by_ ∉ Lf
theorem CsIs.keepX{X:Nat->Prop}{W W':World}{v:Value}{L:List PCom}(h:CsIs W (FrX X W) v L)(hk:KeepsR W W')(hs:W.heap.size<=W'.heap.size):CsIs W' (FrX X W') v L:=h.stay (fun _ hb _=>hk.heap hb.1) hs (fun _ hb _=>⟨hk.fr hb.1,hb.2⟩)
theorem TabIs.keepX{X:Nat->Prop}{W W':World}{v:Value}{T:Tab}(h:TabIs W (FrX X W) v T)(hk:KeepsR W W'):TabIs W' (FrX X W') v T:=h.stay (fun _ hb _=>hk.heap hb.1) (fun _ hb _=>⟨hk.fr hb.1,hb.2⟩)
theorem Zz.frx{X:Nat->Prop}{W:World}{lo:Nat}{v:Value}{T:Tab}(h:Zz W lo v T)(hX:∀ b,X b->b<lo):TabIs W (FrX X W) v T:=h.tab.stay (fun _ _ _=>rfl) (fun b hb _=>by
 refine⟨?_,fun hx=>by have:=hX b hx;have:=hb.1;omega⟩;rcases hb.2 with ⟨cs,hB⟩ | ⟨cs,hB⟩ <;> exact⟨_,cs,hB,by decide,by decide,by decide,by decide⟩)
section
variable {X:Nat->Prop} {w0:World} {base:Nat->Prop} {r rb g by_:Nat} {ra:Str} {br rbr:Bool} {L:List PCom} {T:Tab} {S:DS} {W W':World}
theorem RpM.below(h:RpM X w0 base r rb g by_ ra br rbr L T S W)(hb:Below W.heap.size W W'):RpM X w0 base r rb g by_ ra br rbr L T S W':=by
 obtain⟨LV,hR,hC⟩:=h.repo;obtain⟨v,hB,hT⟩:=h.refs;obtain⟨Lf,hD,hL,hn⟩:=h.disk;exact⟨h.bel.trans (Z3k hb (fun i h1 h2=>absurd h2 (by omega))),fun i hi=>h.size i (lS hb.size hi),h.low,⟨LV,hR.below hb hR.lt,hC.keepX (KeepsR.below hb) hb.size⟩,h.map.below hb h.map.lt,⟨v,hB.below hb hB.lt,hT.keepX (KeepsR.below hb)⟩,Lf,hD.below hb,hL,hn⟩
theorem RpM.wide(h:RpM X w0 base r rb g by_ ra br rbr L T S W):RpM (fun b=>X b ∨ W.heap.size<=b) w0 base r rb g by_ ra br rbr L T S W:=by
 obtain⟨LV,hR,hC⟩:=h.repo;obtain⟨v,hB,hT⟩:=h.refs;have hw:∀ b,FrX X W b->b<W.heap.size->FrX (fun b=>X b ∨ W.heap.size<=b) W b:=fun b hb hl=>⟨hb.1,fun hx=>by
  rcases hx with hx | hx
  ·exact hb.2 hx
  ·omega⟩
 exact⟨h.bel,h.size,h.low,⟨LV,hR,hC.stay (fun _ _ _=>rfl) (lA _) hw⟩,h.map,⟨v,hB,hT.stay (fun _ _ _=>rfl) hw⟩,h.disk⟩
theorem RpM.weak{X':Nat->Prop}(h:RpM X w0 base r rb g by_ ra br rbr L T S W)(hX:∀ b,X' b->X b):RpM X' w0 base r rb g by_ ra br rbr L T S W:=by
 obtain⟨LV,hR,hC⟩:=h.repo;obtain⟨v,hB,hT⟩:=h.refs;have hw:∀ b,FrX X W b->b<W.heap.size->FrX X' W b:=fun b hb hl=>⟨hb.1,fun hx=>hb.2 (hX b hx)⟩;exact⟨h.bel,h.size,h.low,⟨LV,hR,hC.stay (fun _ _ _=>rfl) (lA _) hw⟩,h.map,⟨v,hB,hT.stay (fun _ _ _=>rfl) hw⟩,h.disk⟩
theorem RpM.touch{M:List Nat}(h:RpM X w0 base r rb g by_ ra br rbr L T S W)(ht:Touch M W W')(hM:∀ i ∈ M,X i/\base i/\∃ t cs,Blk W i t cs/\t ≠ 32/\t ≠ 164/\t ≠ 64/\t ≠ 224/\t ≠ 9):RpM X w0 base r rb g by_ ra br rbr L T S W':=by
 obtain⟨LV,hR,hC⟩:=h.repo;obtain⟨v,hB,hT⟩:=h.refs;obtain⟨Lf,hD,hL,hn⟩:=h.disk;have hno:∀ (i:Nat) (t:TypeId) (cs:List Value),i ∈ M->Blk W i t cs->t ≠ 32/\t ≠ 164/\t ≠ 64/\t ≠ 224/\t ≠ 9:=fun i t cs hi hBi=>by
  obtain⟨_,_,t',cs',hB',k⟩:=hM i hi;rw[hBi.unique hB'];exact k
 have hk:∀ b,FrX X W b->b<W.heap.size->W'.heap[b]?=W.heap[b]?:=fun b hb hl=>ht.block b hl (fun hm=>hb.2 (hM b hm).1);have ho:∀ b,FrX X W b->b<W.heap.size->FrX X W' b:=fun b hb hl=>by
  obtain⟨⟨t,cs,hBb,k⟩,hx⟩:=hb;exact⟨⟨t,cs,hBb.touch ht (fun hm=>hx (hM b hm).1),k⟩,hx⟩
 refine⟨h.bel.trans (ht.stay (fun i hi=>(hM i hi).2.1)),fun i hi=>h.size i (lS ht.size hi),h.low,⟨LV,hR.touch ht (fun hm=>(hno _ _ _ hm hR).1 rfl),hC.stay hk ht.size ho⟩,h.map.touch ht (fun hm=>?_),⟨v,hB.touch ht (fun hm=>(hno _ _ _ hm hB).2.1 rfl),hT.stay hk ho⟩,Lf,hD.touch ht (fun i hi hm=>?_) (fun i hi cs hBi=>(hno _ _ _ hi hBi).2.2.2.2 rfl),hL,hn⟩
 ·obtain⟨_,_,t',cs',hB',_⟩:=hM _ hm;exact h.map.ne_blk hB' rfl
 ·obtain⟨_,_,t',cs',hB',_,_,k3,k4,_⟩:=hM _ hm;obtain⟨bn,bs,pv,hDA,rfl⟩:=hD;exact hDA.tag hB' k3 k4 hi
end
theorem CsIs.nilV{w:World}{ok:Nat->Prop}:CsIs w ok Z2 []:=⟨none,0,rfl,fun i c h=>by simp at h⟩
end
section
set_option maxRecDepth 100000
set_option maxHeartbeats 8000000
open Go.Lib renaming hid → iD
open Go.Proofs.Tryz
open Go.RowKit
def Yr(W:World)(lo b:Nat):Prop:=lo<=b/\((∃ cs,Blk W b 47 cs) ∨ ∃ cs,Blk W b 178 cs)
theorem Yr.fr{W:World}{lo b:Nat}(h:Yr W lo b):Fr W b:=by
 rcases h.2 with ⟨cs,hB⟩ | ⟨cs,hB⟩ <;> exact⟨_,cs,hB,by decide,by decide,by decide,by decide⟩
theorem Yr.touch{W W':World}{lo b:Nat}{M:List Nat}(h:Yr W lo b)(ht:Touch M W W')(hM:∀ i ∈ M,∀ t cs,Blk W i t cs->t ≠ 47/\t ≠ 178):Yr W' lo b/\(b<W.heap.size->W'.heap[b]?=W.heap[b]?):=by
 rcases h.2 with ⟨cs,hB⟩ | ⟨cs,hB⟩
 ·have hn:b ∉ M:=fun hm=>(hM b hm _ _ hB).1 rfl;exact⟨⟨h.1,.inl ⟨cs,hB.touch ht hn⟩⟩,fun hl=>ht.block b hl hn⟩
 ·have hn:b ∉ M:=fun hm=>(hM b hm _ _ hB).2 rfl;exact⟨⟨h.1,.inr ⟨cs,hB.touch ht hn⟩⟩,fun hl=>ht.block b hl hn⟩
theorem Y8.touchP{W W':World}{lo:Nat}{cs:List Value}{c:PCom}{M:List Nat}(h:Y8 W (Yr W lo) cs c)(ht:Touch M W W')(hM:∀ i ∈ M,∀ t cs,Blk W i t cs->t ≠ 47/\t ≠ 178):Y8 W' (Yr W' lo) cs c :=
 h.stay (fun _ hb hl=>(hb.touch ht hM).2 hl) (fun _ hb _=>(hb.touch ht hM).1)
theorem Y7.touchP{W W':World}{lo:Nat}{xs:List (List Value)}{L:List PCom}{M:List Nat}(h:Y7 W (Yr W lo) xs L)(ht:Touch M W W')(hM:∀ i ∈ M,∀ t cs,Blk W i t cs->t ≠ 47/\t ≠ 178):Y7 W' (Yr W' lo) xs L :=
 ⟨h.1,fun i c cs hc hx=>(h.2 i c cs hc hx).touchP ht hM⟩
theorem Zcx{w:World}{base:Nat}{v:Value}{l:List POp}(h:w.ownsRow base 178 37 v l.length (X5 l)):Xu w (Yr w base) v l:=by
 rcases h with ⟨h1,⟨rfl,h3⟩ | ⟨g,cap,cur,rfl,h3,h4,h5,h6,h7,h8⟩⟩
 ·exact⟨none,0,by rw[h3],by omega,fun hp=>by omega⟩
 ·have hB:Blk w g 178 cur.toList:=by unfold Blk;simpa using h4
  refine⟨some ⟨g,0,none⟩,cap,rfl,h5,fun hp=>?_⟩;exact Rd.of_blk (ok:=Yr w base) (xs:=X5 l) (r:=cur.toList.drop (l.length*37)) hB (by rw[<-h8,lP,List.take_append_drop]) ⟨h3,.inr ⟨_,hB⟩⟩ hp
theorem Z7.part{w:World}{lo:Nat}{v:Value}{l:List Str}(h:Z7 w (Yc w lo) v l):Z7 w (Yr w lo) v l:=h.stay (fun _ _ _=>rfl) (fun _ hb _=>⟨hb.1,.inl hb.2⟩)
theorem Zmr(l:List POp)(v:Value)(ok:Nat->Prop)(w:World)(h:Xu w ok v l)(hf:∀ x ∈ l,OpFit x)(hl:l.length<=2000) :
  Calls lG 109 #[v] w fun e w'=>∃ V,e=.returned V/\Xu w' (Yr w' w.heap.size) V l/\Below w.heap.size w w':=by
 obtain⟨A,c,rfl,hc,hr⟩:=h;have hlen:=iD (Z4x hf);have hone:=iD (Zke l);have hq:=fun w=>Lib.run_eql_slice_nil (P:=lG) w 80 178 A l.length c 0 0 underlying80;cases A with
 | none =>
  have h0:Hid (l=[]):=iD (by
   cases l with
   | nil=>rfl
   | cons d r =>
    obtain⟨ad,e,_⟩:=hr (by rw[hlen.out,l4];omega);cases e)
  clear hr hf;go_enter func109,ntmps109;go_wp2;go_ret;exact⟨_,rfl,by rw[h0.out];exact⟨none,0,rfl,lA _,fun hp=>absurd hp (by simp[X5])⟩,lE _ _⟩
 | some ad =>
  have hrd:Hid (Rd (w.alloc (.cells #[] 178)) (fun b=>b<w.heap.size) (some ad) (X5 l)):=iD (hr.stay (fun b _ hlt=>Below.heap_alloc _ _ _ hlt) (fun b _ hlt=>hlt));have hown:=iD (Z59 w 178 37);have hb0:Hid (Below w.heap.size w (w.alloc (.cells #[] 178))):=iD bL;clear hr hf;go_enter func109,ntmps109;go_wp2_with (at_builtin;refine X0 _ rfl (.tmp 5) (.tmp 6) 80 rfl w.heap.size 178 _ 37 72 underlying80 Z5j (.slice (some ⟨w.heap.size,0,none⟩) 0 0) 0 [] rfl hown.out (fun b=>b<w.heap.size) (some ad) l.length c (X5 l) rfl hlen.out hrd.out hone.out (by unfold maxLen;omega) (by omega) (by simp) ?_;intro v' w2 hrow2 hg2 hv2;replace hrow2:=iD hrow2;replace hg2:=iD hg2;obtain⟨VA,vc,rfl,_,_⟩:=Z6 hrow2.out;go_frame);go_ret;refine⟨_,rfl,Zcx (by have:=hrow2.out;simpa using this),?_⟩;exact hb0.out.trans (Yd hown.out hg2.out (by simp))
theorem Z26{cs:List Value}(h:cs.length=4):(lG.info? 82).map (·.size)=some cs.length:=by
 have e:(lG.info? 82).map (·.size)=some 4:=by kernel_rfl
 rw[e,h]
theorem Zms(c:PCom)(cs:List Value)(ok:Nat->Prop)(w:World)(h:Y8 w ok cs c)(hf:ComFit c)(hol:c.ops.length<=2000) :
  Calls lG 49 #[.agg cs.toArray] w fun e w'=>∃ cs',e=.returned (.agg cs'.toArray)/\Y8 w' (Yr w' w.heap.size) cs' c/\Below w.heap.size w w':=by
 obtain⟨p,o,rfl,hP,hO⟩:=h;have hcp:=iD (fun W (hb:Below w.heap.size w W)=>Z31 c.parents p ok W (hP.stayB hb) hf.par);have hco:=iD (fun W (hb:Below w.heap.size w W)=>Zmr c.ops o ok W (hO.stayB hb) hf.ops.ok hol);obtain⟨PA,pc,rfl,_,_⟩:=hP;obtain⟨OA,oc,rfl,_,_⟩:=hO;unfold Z0;obtain⟨au,hau⟩:∃ au,au=lT ⟨c.author.toArray⟩:=⟨_,rfl⟩;obtain⟨nt,hnt⟩:∃ nt,nt=lT ⟨c.note.toArray⟩:=⟨_,rfl⟩;have hau1:au.oneCell'=true:=by rw[hau];rfl
 have hnt1:nt.oneCell'=true:=by rw[hnt];rfl
 rw[<-hau,<-hnt];replace hau:=iD hau;replace hnt:=iD hnt;obtain⟨np,hnp⟩:∃ np,np=c.parents.length:=⟨_,rfl⟩;obtain⟨no,hno⟩:∃ no,no=c.ops.length:=⟨_,rfl⟩;rw[<-hnp] at hcp ⊢;rw[<-hno] at hco ⊢;replace hnp:=iD hnp;replace hno:=iD hno;have hz4:∀ (a b c d:Value),(lG.info? 82).map (·.size)=some [a,b,c,d].length:=fun _ _ _ _=>Z26 rfl;replace hz4:=iD hz4;generalize hW1:(w.alloc (.cells #[lD PA np pc,au,nt,.slice OA no oc] 82))=w1;have hb1:Below w.heap.size w w1:=by rw[<-hW1];exact bL
 have hC1:Blk w1 w.heap.size 82 [lD PA np pc,au,nt,.slice OA no oc]:=by rw[<-hW1];exact Blk.new_at (cs:=[lD PA np pc,au,nt,.slice OA no oc]) rfl
 go_enter func49,ntmps49;go_wp2_with fail;generalize hW2:lQ w1 (l6 _ 82)=w2;have hR2:Blk w2 w1.heap.size 82 [Z2,.string ⟨#[]⟩,.string ⟨#[]⟩,Z2]:=by rw[<-hW2];exact Blk.new_at (cs:=[_,_,_,_]) rfl
 have hb12:Below w1.heap.size w1 w2:=by rw[<-hW2];exact bL
 have hC2:=hC1.below hb12 hC1.lt;have hb2:=hb1.trans (hb12.mono hb1.size);have hlt:=hC1.lt;clear hW1 hW2 hC1;obtain⟨PS,hPS⟩:∃ PS:World->Prop,∀ x,PS x ↔ Blk x w.heap.size 82 [lD PA np pc,au,nt,.slice OA no oc]:=⟨_,fun _=>Iff.rfl⟩;have s0:∀ s:Cls PS,s.1.cell? ⟨w.heap.size,0,none⟩=some (.slice PA np pc):=fun s=>((hPS _).1 s.2).cell 0;have s3:∀ s:Cls PS,s.1.cell? ⟨w.heap.size,3,none⟩=some (.slice OA no oc):=fun s=>((hPS _).1 s.2).cell 3;have s4:PS w2.drew:=(hPS _).2 hC2.drew;haveI : Nonempty (Cls PS):=⟨⟨_,s4⟩⟩;replace hPS:=iD hPS;refine Kk (fun w'=>∃ s:Cls PS,w'=s.1) [([0,1,3,4],2),([6],5)] [] 7 [8,9] (by kernel_rfl) (by kernel_rfl) (fun _ d _ _ _ h=>by cases d <;> exact h) ⟨⟨_,s4⟩,rfl⟩ ?_;simp only[Jr,Zj,nH,nI,Yw,Ys];repeat (first | go_big_quiet_step (fail))
 refine lF ?_;intro K hK;go_simp;have hbd:=hb2.trans ((lE w2.heap.size w2).drew.mono hb2.size);refine (hcp.out w2.drew hbd).mono ?_;rintro e w3 ⟨VP,rfl,hP3,hb3⟩;have hb3':=hbd.trans (hb3.mono hbd.size);have hC3:=hC2.drew.below hb3 hC2.drew.lt;have hR3:=hR2.drew.below hb3 hR2.drew.lt;obtain⟨VPA,vpc,rfl,_,_⟩:=id hP3;refine hK _ _ ⟨⟨_,(hPS.out _).2 hC3⟩,rfl⟩ ?_;clear hK;repeat (first | go_big_quiet_step (fail))
 refine lF ?_;intro K hK;go_simp;refine (hco.out w3 hb3').mono ?_;rintro e w4 ⟨VO,rfl,hO4,hb4⟩;obtain⟨VOA,voc,rfl,_,_⟩:=id hO4;have hC4:=hC3.below hb4 hC3.lt;have hR4:=hR3.below hb4 hR3.lt;have hb4':=hb3'.trans (hb4.mono hb3'.size);have hP4:Z7 w4 (Yr w4 w.heap.size) _ c.parents:=(hP3.part.stayB hb4).stay (fun _ _ _=>rfl) (fun b hb hl=>by
  have h1:=hb.1;have h2:=hbd.size;refine⟨by omega,?_⟩;rcases hb.2 with ⟨cs,hB⟩ | ⟨cs,hB⟩
  ·exact .inl ⟨cs,hB.below hb4 hB.lt⟩
  ·exact .inr ⟨cs,hB.below hb4 hB.lt⟩)
 have hO4':Xu w4 (Yr w4 w.heap.size) _ c.ops:=hO4.stay (fun _ _ _=>rfl) (fun b hb hl=>⟨by have h1:=hb.1;have h2:=hb3'.size;omega,hb.2⟩);rw[<-hnp.out] at hP4;rw[<-hno.out] at hO4';rw[<-hnp.out,<-hno.out];refine hK _ _ ⟨⟨_,(hPS.out _).2 hC4⟩,rfl⟩ ?_;clear hK;refine lF ?_;have c0:w4.cell? ⟨w.heap.size,0,none⟩=some (.slice PA np pc):=hC4.cell 0;have f0:=hC4.frozen 0;have hC5:=hC4.set_ 0 (.slice VPA np vpc);have c3:(w4.setCell ⟨w.heap.size,0,none⟩ (.slice VPA np vpc)).cell? ⟨w.heap.size,3,none⟩=some (.slice OA no oc):=hC5.cell 3;have f3:=hC5.frozen 3;have hC6:Blk ((w4.setCell ⟨w.heap.size,0,none⟩ (.slice VPA np vpc)).setCell ⟨w.heap.size,3,none⟩ (.slice VOA no voc)) w.heap.size 82 [.slice VPA np vpc,au,nt,.slice VOA no voc]:=hC5.set_ 3 (.slice VOA no voc);have hR6:=(hR4.far (p:=⟨w.heap.size,0,none⟩) (show w1.heap.size ≠ w.heap.size by omega) (.slice VPA np vpc)).far (p:=⟨w.heap.size,3,none⟩) (show w1.heap.size ≠ w.heap.size by omega) (.slice VOA no voc);have hb6:=(hb4'.setCell (p:=⟨w.heap.size,0,none⟩) (lA _) (.slice VPA np vpc)).setCell (p:=⟨w.heap.size,3,none⟩) (lA _) (.slice VOA no voc);have ht6:Touch [w.heap.size,w1.heap.size] w4 ((w4.setCell ⟨w.heap.size,0,none⟩ (.slice VPA np vpc)).setCell ⟨w.heap.size,3,none⟩ (.slice VOA no voc)):=(Touch.setCell _ (by simp)).trans (Touch.setCell _ (by simp)) (fun i hi=>.inl hi);have hfin:Hid (∀ u,Touch [w.heap.size,w1.heap.size] w4 u->Y8 u (Yr u w.heap.size) [.slice VPA np vpc,au,nt,.slice VOA no voc] c):=iD (fun u hu=>by
  have hci:Y8 w4 (Yr w4 w.heap.size) [.slice VPA np vpc,au,nt,.slice VOA no voc] c:=⟨_,_,by rw[hau.out,hnt.out];rfl,hP4,hO4'⟩;refine hci.touchP hu (fun i hi t cs' hB=>?_);simp only[lN,lR,or_false] at hi;rcases hi with rfl | rfl
  ·rw[hB.unique hC4];exact⟨by decide,by decide⟩
  ·rw[hB.unique hR4];exact⟨by decide,by decide⟩)
 have h1c:∀ v ∈ [lD VPA np vpc,au,nt,.slice VOA no voc],v.oneCell'=true:=fun v hv=>by
  simp only[lN,lR,or_false] at hv;rcases hv with rfl | rfl | rfl | rfl
  ·rfl
  ·exact hau1
  ·exact hnt1
  ·rfl
 clear hC5 hP4 hO4' hP3 hO4;replace h1c:=iD h1c;replace hC6:=iD hC6;replace hR6:=iD hR6;replace hb6:=iD hb6;go_wp2_with (first
  | (refine Y0 rfl 82 (.tmp 1) rfl w.heap.size rfl 82 [.slice VPA np vpc,au,nt,.slice VOA no voc] hC6.out _ underlying82 rfl (hz4.out _ _ _ _) ?_)
  | (refine Zo rfl 82 (.tmp 2) (.tmp 11) rfl w1.heap.size [.slice VPA np vpc,au,nt,.slice VOA no voc] rfl rfl 82 [Z2,.string ⟨#[]⟩,.string ⟨#[]⟩,Z2] hR6.out rfl (hz4.out _ _ _ _) h1c.out ?_)
  | fail)
 refine Z0q rfl w1.heap.size 82 [.slice VPA np vpc,au,nt,.slice VOA no voc] _ rfl (hR6.out.setRow_same _) underlying82 rfl (hz4.out _ _ _ _) rfl ⟨_,rfl,hfin.out _ (ht6.trans (Touch.setRow (L:=[w.heap.size,w1.heap.size]) (by simp) _) (fun i hi=>.inl hi)),below_setRow hb6.out hb1.size _⟩
structure KnAt (w:World) (lo kb mb:Nat) (L:List PCom):Prop where
 box:∃ LV xs,Blk w kb 28 [LV,.map (some mb)]/\Y7 w (Yr w lo) xs L/\w.ownsRow lo 82 4 LV L.length xs.flatten
 map:Zg w mb (byN (Z5 L))
 low:kb<lo/\mb<lo
theorem Yr.below{W W':World}{lo b:Nat}(h:Yr W lo b)(hb:Below W.heap.size W W'):Yr W' lo b:=by
 rcases h.2 with ⟨cs,hB⟩ | ⟨cs,hB⟩
 ·exact⟨h.1,.inl ⟨cs,hB.below hb hB.lt⟩⟩
 ·exact⟨h.1,.inr ⟨cs,hB.below hb hB.lt⟩⟩
theorem Y7.calmP{W W':World}{lo:Nat}{xs:List (List Value)}{L:List PCom}(h:Y7 W (Yr W lo) xs L)(hb:Below W.heap.size W W'):Y7 W' (Yr W' lo) xs L:=h.stay (fun b _ hl=>hb.block b hl) (fun _ hp _=>hp.below hb)
theorem Y8.calmP{W W':World}{lo:Nat}{cs:List Value}{c:PCom}(h:Y8 W (Yr W lo) cs c)(hb:Below W.heap.size W W'):Y8 W' (Yr W' lo) cs c:=h.stay (fun b _ hl=>hb.block b hl) (fun _ hp _=>hp.below hb)
theorem KnAt.calm{w w':World}{lo kb mb:Nat}{L:List PCom}(h:KnAt w lo kb mb L)(hb:Below w.heap.size w w'):KnAt w' lo kb mb L:=by
 obtain⟨LV,xs,h1,h2,h3⟩:=h.box;exact⟨⟨LV,xs,h1.below hb h1.lt,h2.calmP hb,Zk (L:=[]) h3 (Touch.ofBelow hb) (by simp)⟩,h.map.below hb h.map.lt,h.low⟩
structure LoT (lo kb mb:Nat) (w w':World):Prop where
 os:w'.os=w.os
 tape:w'.tape=w.tape
 output:w'.output=w.output
 size:w.heap.size<=w'.heap.size
 block:∀ i,i<lo->i ≠ kb->i ≠ mb->w'.heap[i]?=w.heap[i]?
theorem LoT.below{lo kb mb:Nat}{w w':World}(h:Below w.heap.size w w')(hl:lo<=w.heap.size):LoT lo kb mb w w':=⟨h.os,h.tape,h.output,h.size,fun i hi _ _=>h.block i (by omega)⟩
theorem LoT.trans{lo kb mb:Nat}{a b c:World}(h:LoT lo kb mb a b)(k:LoT lo kb mb b c):LoT lo kb mb a c :=
 ⟨k.os.trans h.os,k.tape.trans h.tape,k.output.trans h.output,lS h.size k.size,fun i hi h1 h2=>(k.block i hi h1 h2).trans (h.block i hi h1 h2)⟩
theorem LoT.ofTouch{lo kb mb:Nat}{M:List Nat}{w w':World}(h:Touch M w w')(hl:lo<=w.heap.size)(hM:∀ i ∈ M,i=kb ∨ i=mb ∨ lo<=i):LoT lo kb mb w w' :=
 ⟨h.os,h.tape,h.output,h.size,fun i hi h1 h2=>h.block i (by omega) (fun hm=>by
  rcases hM i hm with e | e | e
  ·exact h1 e
  ·exact h2 e
  ·omega)⟩
theorem LoT.touch{kb mb:Nat}{a b c:World}(h:Touch [kb,mb] a b)(k:LoT a.heap.size kb mb b c):Touch [kb,mb] a c :=
 ⟨k.os.trans h.os,k.tape.trans h.tape,k.output.trans h.output,lS h.size k.size,fun i hi hn=>by
  simp only[lN,lR,or_false,not_or] at hn;exact (k.block i hi hn.1 hn.2).trans (h.block i hi (by simp[hn.1,hn.2]))⟩
theorem Zmt(L:List PCom)(c:PCom):Z5 (L++[c])=Z5 L++[Jc c]:=by
 unfold Z5;rw[List.map_append];rfl
theorem Zmu(a b c d:Value)(w:World)(ha:∃ A n k,a=.slice A n k)(hb:∃ s,b=.string s)(hc:∃ s,c=.string s)(hd:∃ A n k,d=.slice A n k):(Instr.buildSlice 25 1 #[(0,.agg #[a,b,c,d])]).run lG w=.ok (.slice (some ⟨w.heap.size,0,none⟩) 1 1) (w.alloc (.cells #[a,b,c,d] 82)):=by
 obtain⟨A,n,k,rfl⟩:=ha;obtain⟨s,rfl⟩:=hb;obtain⟨t,rfl⟩:=hc;obtain⟨A',n',k',rfl⟩:=hd;kernel_rfl
theorem Zmv(L:List PCom)(hH:HistOk L)(hl:L.length<=200)(c:PCom)(hcf:ComFit c)(hnew:∀ x ∈ Z5 L,x.id ≠ idC c)(hpar:InN (Z5 L) c.parents)(hp8:c.parents.length<=8)(ds:Str)(hds:ds=idC c)(cs:List Value)(lo kb mb:Nat)(w:World)(hk:KnAt w lo kb mb L)(hlo:lo<=w.heap.size)(hc:Y8 w (Yr w lo) cs c) :
  Calls lG 56 #[.pointer (some ⟨kb,0,none⟩),.agg (ds.map B).toArray,.agg cs.toArray] w fun e w'=>e=.returned (.bool true)/\KnAt w' lo kb mb (L++[c])/\LoT lo kb mb w w':=by
 have hdl:ds.length=32:=by rw[hds];exact Q0 c
 have hNok:=hH.ndsAll;have hNl:(Z5 L).length=L.length:=by unfold Z5;rw[nJ]
 have hsn:=Z6y (Z5 L) (Jc c);rw[<-Zmt,hNl,show (Jc c).id=ds from hds.symm] at hsn;have hnone:=iD (Z1y (d:=ds) (N:=Z5 L) (by rw[hds];exact hnew));have hMk:=iD (Qc hNok);have hpo:=hcf.par.ok;have hci:=iD (fun W (hb:Below w.heap.size w W)=>hc.calmP hb);have hkb:=iD (fun W (hb:Below w.heap.size w W)=>hk.calm hb);have hone:=hc.one_;obtain⟨p,o,rfl,hP,hO⟩:=hc;have hPb:=iD (fun W (hb:Below w.heap.size w W)=>hP.stayB hb);obtain⟨PA,pc,rfl,_,_⟩:=hP;obtain⟨OA,oc,rfl,_,_⟩:=hO;have hbs:=fun (W:World)=>Zmu (.slice PA c.parents.length pc) (Z0 c.author) (Z0 c.note) (.slice OA c.ops.length oc) W ⟨_,_,_,rfl⟩ ⟨_,rfl⟩ ⟨_,rfl⟩ ⟨_,_,_,rfl⟩;unfold Z0 at hone hci hbs ⊢;obtain⟨au,hau⟩:∃ au,au=lT ⟨c.author.toArray⟩:=⟨_,rfl⟩;obtain⟨nt,hnt⟩:∃ nt,nt=lT ⟨c.note.toArray⟩:=⟨_,rfl⟩;rw[<-hau,<-hnt] at hone hci hbs ⊢;replace hau:=iD hau;replace hnt:=iD hnt;replace hbs:=iD hbs;replace hone:=iD hone;replace hsn:=iD hsn;replace hds:=iD hds;replace hpar:=iD hpar;replace hNok:=iD hNok;have hz4:∀ (a b c d:Value),(lG.info? 82).map (·.size)=some [a,b,c,d].length:=fun _ _ _ _=>Z26 rfl;replace hz4:=iD hz4;obtain⟨hl1,hl2⟩:=hk.low;obtain⟨LV,xs,hX0,hx0,hr0⟩:=hk.box;obtain⟨LA,lc,rfl,_,_⟩:=Z6 hr0;have hrlt:=iD (fun b (hb:(lD LA L.length lc).ownBlock=some b)=>(hr0.lt b hb).2);have hbox:=iD (fun W (hb:Below w.heap.size w W)=>show Blk W kb 28 [.slice LA L.length lc,.map (some mb)]/\Y7 W (Yr W lo) xs L/\W.ownsRow lo 82 4 (.slice LA L.length lc) L.length xs.flatten from ⟨hX0.below hb hX0.lt,hx0.calmP hb,Zk (L:=[]) hr0 (Touch.ofBelow hb) (by simp)⟩);have hMb:=iD (fun W (hb:Below w.heap.size w W)=>hk.map.below hb hk.map.lt);clear hk hnew hH hX0 hx0 hr0 hkb;generalize hW1:(w.alloc (.cells (ds.map B).toArray 47))=w1;have hb1:Below w.heap.size w w1:=by rw[<-hW1];exact bL
 have hD1:Blk w1 w.heap.size 47 (ds.map B):=by rw[<-hW1];exact Blk.new_at rfl
 generalize hW2:(w1.alloc (.cells #[.slice PA c.parents.length pc,au,nt,.slice OA c.ops.length oc] 82))=w2;have hb12:Below w1.heap.size w1 w2:=by rw[<-hW2];exact bL
 have hC2:Blk w2 w1.heap.size 82 [.slice PA c.parents.length pc,au,nt,.slice OA c.ops.length oc]:=by rw[<-hW2];exact Blk.new_at (cs:=[.slice PA c.parents.length pc,au,nt,.slice OA c.ops.length oc]) rfl
 have hb2:=hb1.trans (hb12.mono hb1.size);have hD2:=hD1.below hb12 hD1.lt;have hD3:Hid (∀ w',(∃ n,w'=w2.drewN n)->Blk w' w.heap.size 47 (ds.map B)):=iD (by rintro _ ⟨n,rfl⟩;exact hD2.drewN n);have hM2:=hMb.out w2 hb2;obtain⟨hX2,_,_⟩:=hbox.out w2 hb2;have k1:w2.cell? ⟨kb,1,none⟩=some (.map (some mb)):=hX2.cell 1;have hrun:Hid (∀ w',(∃ n,w'=w2.drewN n)->(nK 26 (.map (some mb)) (.agg (ds.map B).toArray) true).run lG w'=.ok (.tuple #[.int .i64 0,.bool false]) w'):=iD (by
  rintro _ ⟨n,rfl⟩;have hM5:Zg (w2.drewN n) mb _:=hM2.block rfl;exact hM5.look_none Xz underlying26 (by rfl) hMk.out (Jm ds hdl) hnone.out true)
 clear hD1 hb12 hX2 hM2;replace hb2:=iD hb2;replace hC2:=iD hC2;replace hD2:=iD hD2;go_enter func56,ntmps56;go_wp2_with fail;refine nL (by kernel_rfl) (by kernel_rfl) ?_;repeat (first
  | go_big_quiet_step (fail)
  | (refine Yf 47 (.tmp 4) rfl rfl w.heap.size 0 rfl 47 (ds.map B) (ds.map B) [] hD3.out (by simp) _ underlying47 rfl (Za hdl) ?_;go_frame)
  | (refine Yp (.lookup 26 (.tmp 17) (.tmp 18) true) rfl rfl (.tuple #[.int .i64 0,.bool false]) (fun w' hw'=>Jk 26 (.tmp 17) (.tmp 18) true rfl _ _ _ rfl rfl (hrun.out w' hw')) ?_;go_frame))
 refine lF ?_;rintro _ ⟨nq,rfl⟩;have hC3:=hC2.out.drewN nq;have hD3:=hD2.out.drewN nq;have hb3:=hb2.out.trans ((Touch.drewN (L:=[]) nq).below hb2.out.size (fun _ hi=>by cases hi));have c0:(w2.drewN nq).cell? ⟨w1.heap.size,0,none⟩=some (.slice PA c.parents.length pc):=hC3.cell 0;clear hrun k1 hC2 hD2 hb2 hW1 hW2;generalize w2.drewN nq=w3 at hC3 hD3 hb3 c0 ⊢;replace hC3:=iD hC3;replace hD3:=iD hD3;replace hb3:=iD hb3;go_wp2_with fail;clear c0;go_loopw [26] (fun i wr=>∃ m:Nat,m<=c.parents.length/\i=.int .i64 (m:Int)/\Below w3.heap.size w3 wr) (fun i _=>c.parents.length - (intOf i).toNat)
 case atStart=>exact⟨0,lL _,rfl,lE _ _⟩
 case round =>
  obtain⟨m,hm,rfl,hbr⟩:=hrel;have hbwr:=hb3.out.trans (hbr.mono hb3.out.size);by_cases hlt:m<c.parents.length
  ·obtain⟨ib,io,hPAe,_,hbl,hc1⟩:=(hPb.out _ hbwr).dig hpo m hlt;subst hPAe;obtain⟨d,hd⟩:∃ d,d=c.parents[m]:=⟨_,rfl⟩;have hdl':d.length=32:=by rw[hd];exact hpo _ (lH _)
   obtain⟨j,y,hj,hy⟩:=hpar.out d (by rw[hd];exact lH _);rw[<-hd] at hc1;have i1:(0:Int)<=(m:Int):=by omega
   have i2:(m:Int)<(c.parents.length:Int):=by omega
   have hMm:=iD (Qo hj);have hMu:=iD (Qp hNok.out hj);rw[hy] at hMm hMu;replace hbr:=iD hbr;replace hbwr:=iD hbwr;replace hc1:=iD hc1;replace hd:=iD hd;go_upto_region 7 with (first
    | (refine l7 rfl 47 (.tmp 28) rfl ib (io+m*32) rfl (d.map B) _ (fun j v hv=>hc1.out j v hv) underlying47 rfl (Za hdl') ?_;go_frame)
    | (refine Zo rfl 47 (.tmp 10) (.tmp 29) rfl wr.heap.size (d.map B) rfl rfl 47 Z3 (Blk.new_at rfl) (by simp[hdl',Z3]) (Za hdl') (Yk _) ?_;go_frame)
    | fail)
   generalize hw1:l8 _ wr.heap.size (d.map B).toArray=w9;have hB9:Blk w9 wr.heap.size 47 (d.map B):=by
    rw[<-hw1];exact (Blk.new_at (w:=wr) (t:=47) (cs:=Z3) rfl).setRow_same (d.map B)
   have hb9:Below wr.heap.size wr w9:=by
    rw[<-hw1];exact below_setRow ((lE wr.heap.size wr).alloc (lA _) (.cells Z3.toArray 47)) (lA _) (d.map B).toArray
   have hb9w:=hbwr.out.trans (hb9.mono hbwr.out.size);have hb39:=hbr.out.trans (hb9.mono hbr.out.size);have hM9:=hMb.out w9 hb9w;obtain⟨hX9,_,_⟩:=hbox.out w9 hb9w;have l1:w9.cell? ⟨kb,1,none⟩=some (.map (some mb)):=hX9.cell 1;have hD9:Hid (∀ w',(∃ n,w'=w9.drewN n)->Blk w' wr.heap.size 47 (d.map B)):=iD (by rintro _ ⟨n,rfl⟩;exact hB9.drewN n);have hrun:Hid (∀ w',(∃ n,w'=w9.drewN n)->(nK 26 (.map (some mb)) (.agg (d.map B).toArray) true).run lG w'=.ok (.tuple #[.int .i64 (j:Int),.bool true]) w'):=iD (by
    rintro _ ⟨n,rfl⟩;have hM5:Zg (w9.drewN n) mb _:=hM9.block rfl;exact hM5.look_some Xz underlying26 hMk.out (Jm d hdl') hMm.out hMu.out true)
   clear hw1 hb9 hB9 hX9 hM9 hb9w;replace hb39:=iD hb39;refine nL (by kernel_rfl) (by kernel_rfl) ?_;repeat (first
    | go_big_quiet_step (fail)
    | (refine Yf 47 (.tmp 10) rfl rfl wr.heap.size 0 rfl 47 (d.map B) (d.map B) [] hD9.out (by simp) _ underlying47 rfl (Za hdl') ?_;go_frame)
    | (refine Yp (.lookup 26 (.tmp 34) (.tmp 35) true) rfl rfl (.tuple #[.int .i64 (j:Int),.bool true]) (fun w' hw'=>Jk 26 (.tmp 34) (.tmp 35) true rfl _ _ _ rfl rfl (hrun.out w' hw')) ?_;go_frame))
   refine lF ?_;rintro _ ⟨nq,rfl⟩;have hbf:=hb39.out.trans ((Touch.drewN (L:=[]) nq).below hb39.out.size (fun _ hi=>by cases hi));clear hrun hD9 l1 hb39;replace hbf:=iD hbf;go_wp2_with fail;exact⟨⟨m+1,by omega,by go_num,hbf.out⟩,by simp[intOf];omega⟩
  ·have hmt:m=c.parents.length:=by omega
   subst hmt;have hC4:=hC3.out.below hbr hC3.out.lt;have hD4:=hD3.out.below hbr hD3.out.lt;have hMr:=hMb.out wr hbwr;have hcr:=hci.out wr hbwr;obtain⟨hX,hx,hr⟩:=hbox.out wr hbwr;have hsz:=hbwr.size;have hcbl:w.heap.size<=w1.heap.size:=hb1.size;have kl:kb ≠ mb:=hMr.ne_blk hX;clear hb3 hbr hb1;have hD4':Hid (∀ w',(∃ n,w'=wr.drewN n)->Blk w' w.heap.size 47 (ds.map B)):=iD (by rintro _ ⟨n,rfl⟩;exact hD4.drewN n);have k0:wr.cell? ⟨kb,0,none⟩=some (.slice LA L.length lc):=hX.cell 0;have k1:wr.cell? ⟨kb,1,none⟩=some (.map (some mb)):=hX.cell 1;replace hbwr:=iD hbwr;replace hC4:=iD hC4;replace hMr:=iD hMr;replace hX:=iD hX;replace hx:=iD hx;replace hr:=iD hr;replace hcr:=iD hcr;replace hD4:=iD hD4;go_wp2_with fail;refine Ye 10 (by kernel_rfl) (by kernel_rfl) ?_;simp only[lU,lV,lW,lP];repeat (first
    | go_big_quiet_step (fail)
    | (refine Yf 47 (.tmp 4) rfl rfl w.heap.size 0 rfl 47 (ds.map B) (ds.map B) [] hD4'.out (by simp) _ underlying47 rfl (Za hdl) ?_;go_frame))
   refine lF ?_;rintro _ ⟨nq,rfl⟩;have hbq:Below wr.heap.size wr (wr.drewN nq):=(Touch.drewN (L:=[]) nq).below (lA _) (fun _ hi=>by cases hi);have hM4:Zg (wr.drewN nq) mb _:=hMr.out.block rfl;obtain⟨w4,hrun,hA4,ht4⟩:=hM4.store Xz underlying26 hMk.out (Jm ds hdl) hnone.out (.int .i64 (L.length:Int));have htab:Touch [mb] (wr.drewN nq) w4:=V9 ht4;rw[<-hsn.out] at hA4;refine Ol rfl (Ok 26 (.tmp 45) (.tmp 46) (.tmp 51) rfl _ _ _ rfl rfl rfl hrun) ?_;have hX4:=(hX.out.below hbq hX.out.lt).touch htab (by simpa using kl);have hcm:w1.heap.size ≠ mb:=hMr.out.ne_blk hC4.out;have hC5:=(hC4.out.below hbq hC4.out.lt).touch htab (by simpa using hcm);have hnb:∀ i ∈ [mb],∀ (t:TypeId) (cs:List Value),Blk (wr.drewN nq) i t cs->t ≠ 47/\t ≠ 178:=fun i hi t cs hB=>by
    obtain rfl:i=mb:=by simpa using hi
    exact absurd rfl (hM4.ne_blk hB)
   have hx4:=(hx.out.calmP hbq).touchP htab hnb;have hcr4:=(hcr.out.calmP hbq).touchP htab hnb;have hr4:=Zk (Zk (L:=[]) hr.out (Touch.ofBelow hbq) (by simp)) htab (fun b hb hm=>by
    obtain rfl:b=mb:=by simpa using hm
    obtain⟨cs,hB⟩:=Q2 hr.out hb;exact hMr.out.ne_blk hB rfl)
   have hlt4:LoT lo kb mb w w4:=(LoT.below hbwr.out (lA _) |> fun (h:LoT w.heap.size kb mb w wr)=>(⟨h.os,h.tape,h.output,h.size,fun i hi a b=>h.block i (by omega) a b⟩:LoT lo kb mb w wr)).trans ((LoT.below hbq (by omega)).trans (LoT.ofTouch htab (by show lo<=wr.heap.size;omega) (fun i hi=>.inr (.inl (by simpa using hi)))));have hsz4:wr.heap.size<=w4.heap.size:=htab.size;clear hrun ht4 hM4 hD4' hD4 k0 k1 hMr hC4 hX hx hr hcr htab hbwr hnb hbq;have k0:w4.cell? ⟨kb,0,none⟩=some (.slice LA L.length lc):=hX4.cell 0;replace hX4:=iD hX4;replace hC5:=iD hC5;replace hA4:=iD hA4;replace hlt4:=iD hlt4;replace hx4:=iD hx4;replace hcr4:=iD hcr4;replace hr4:=iD hr4;go_wp2_with fail;go_frame;obtain⟨PS,hPS⟩:∃ PS:World->Prop,∀ x,PS x ↔ Blk x kb 28 [.slice LA L.length lc,.map (some mb)]/\Blk x w1.heap.size 82 [.slice PA c.parents.length pc,au,nt,.slice OA c.ops.length oc]:=⟨_,fun _=>Iff.rfl⟩;have s0:∀ s:Cls PS,s.1.cell? ⟨kb,0,none⟩=some (.slice LA L.length lc):=fun s=>((hPS _).1 s.2).1.cell 0;have s1:Hid (∀ w',(∃ s:Cls PS,w'=s.1)->Blk w' w1.heap.size 82 [.slice PA c.parents.length pc,au,nt,.slice OA c.ops.length oc]):=iD (by rintro _ ⟨s,rfl⟩;exact ((hPS _).1 s.2).2);have s4:PS w4.drew:=(hPS _).2 ⟨hX4.out.drew,hC5.out.drew⟩;haveI : Nonempty (Cls PS):=⟨⟨_,s4⟩⟩;replace hPS:=iD hPS;refine Kk (fun w'=>∃ s:Cls PS,w'=s.1) [([0,1,2,3,4,5],6),([],7)] [] 8 [9,10] (by kernel_rfl) (by kernel_rfl) (fun _ d _ _ _ h=>by cases d <;> exact h) ⟨⟨_,s4⟩,rfl⟩ ?_;simp only[Jr,Zj,nH,nI,Yw,Ys];repeat (first | go_big_quiet_step (fail) | (refine Yf 82 (.tmp 5) rfl rfl w1.heap.size 0 rfl 82 [.slice PA c.parents.length pc,au,nt,.slice OA c.ops.length oc] [.slice PA c.parents.length pc,au,nt,.slice OA c.ops.length oc] [] s1.out (by simp) _ underlying82 rfl (hz4.out _ _ _ _) ?_;go_frame))
   refine lF ?_;intro K hK;refine Z07 _ _ rfl _ (Uk 25 (.tmp 57) rfl _ _ rfl (hbs.out _)) ?_;generalize hW5:lQ w4.drew _=w5;have hY5:Blk w5 w4.heap.size 82 [.slice PA c.parents.length pc,au,nt,.slice OA c.ops.length oc]:=by rw[<-hW5];exact Blk.new_at (cs:=[.slice PA c.parents.length pc,au,nt,.slice OA c.ops.length oc]) (by simp)
   have hb5:Below w4.heap.size w4 w5:=by rw[<-hW5];exact ((lE _ _).drew).alloc (by simp) _
   have hX5:=hX4.out.below hb5 hX4.out.lt;have hC6:=hC5.out.below hb5 hC5.out.lt;have hA5:=hA4.out.below hb5 hA4.out.lt;have hx5:=hx4.out.calmP hb5;have hcr5:=hcr4.out.calmP hb5;have hr5:=Zk (L:=[]) hr4.out (Touch.ofBelow hb5) (by simp);have hs5:=hb5.size;refine hK _ _ ⟨⟨_,(hPS.out _).2 ⟨hX5,hC6⟩⟩,rfl⟩ ?_;clear hK hW5;refine lF ?_;intro K hK;refine V5 _ rfl (.tmp 56) (.tmp 58) 25 rfl lo 82 _ 4 80 underlying25 Z67 (.slice LA L.length lc) L.length xs.flatten rfl hr5 (fun _=>True) (some ⟨w4.heap.size,0,none⟩) 1 1 [.slice PA c.parents.length pc,au,nt,.slice OA c.ops.length oc] rfl rfl (Rd.of_blk (cs:=[.slice PA c.parents.length pc,au,nt,.slice OA c.ops.length oc]) (r:=[]) hY5 rfl trivial) hone.out (by unfold maxLen;omega) (by omega) (by omega) ?_;intro v6 w6 hrow6 hg6 hv6;have htt:Touch (lD LA L.length lc).ownBlock.toList w5 w6:=Touch.grown hg6 (fun b hb=>by rw[hb];simp);have hrb:∀ b ∈ (lD LA L.length lc).ownBlock.toList,lo<=b/\∃ cs,Blk w5 b 82 cs:=fun b hb=>by
    have hb':(lD LA L.length lc).ownBlock=some b:=by simpa using hb
    exact⟨(hr5.lt b hb').1,Q2 hr5 hb'⟩
   have hX6:=hX5.touch htt (fun hm=>by
    obtain⟨_,cs,hB⟩:=hrb _ hm;exact hB.ne_ hX5 (by decide) rfl)
   have hC7:PS w6:=(hPS.out _).2 ⟨hX6,hC6.touch htt (fun hm=>by
    have hm':(lD LA L.length lc).ownBlock=some w1.heap.size:=by simpa using hm
    have:=hrlt.out _ hm';omega)⟩
   have hA6:Zg w6 mb _:=hA5.touch htt (fun hm=>by
    obtain⟨_,cs,hB⟩:=hrb _ hm;exact hA5.ne_blk hB rfl)
   have hnb:∀ i ∈ (lD LA L.length lc).ownBlock.toList,∀ (t:TypeId) (cs:List Value),Blk w5 i t cs->t ≠ 47/\t ≠ 178:=fun i hi t cs hB=>by
    obtain⟨_,cs',hB'⟩:=hrb _ hi;rw[hB.unique hB'];exact⟨by decide,by decide⟩
   have hx6:=hx5.touchP htt hnb;have hcr6:=hcr5.touchP htt hnb;have hlt6:LoT lo kb mb w w6:=hlt4.out.trans ((LoT.below hb5 (by omega)).trans (LoT.ofTouch htt (by omega) (fun i hi=>.inr (.inr (hrb i hi).1))));refine hK _ _ ⟨⟨_,hC7⟩,rfl⟩ ?_;have hxr6:=hx6.app (Y7.one hcr6);have hrow6':w6.ownsRow lo 82 4 v6 (L++[c]).length (xs++[[lD PA c.parents.length pc,au,nt,.slice OA c.ops.length oc]]).flatten:=by
    rw[lK,nE];simpa using hrow6
   clear hK hrow6 hg6 hv6 s0 s1 hX5 hC6 hA5 hY5 hb5 hx5 hcr5 hx6 hcr6 htt hrb hnb;obtain⟨VA,vc,rfl,_,_⟩:=Z6 hrow6';refine lF ?_;have k6:w6.cell? ⟨kb,0,none⟩=some (.slice LA L.length lc):=hX6.cell 0;have f6:=hX6.frozen 0;have ht7:Touch [kb] w6 (w6.setCell ⟨kb,0,none⟩ (.slice VA (L++[c]).length vc)):=Touch.setCell (L:=[kb]) _ (by simp);have hX7:=hX6.set_ 0 (.slice VA (L++[c]).length vc);have hA7:=hA6.touch ht7 (by simpa using fun e=>kl e.symm);have hx7:=hxr6.touchP ht7 (fun i hi t cs hB=>by
    obtain rfl:i=kb:=by simpa using hi
    rw[hB.unique hX6];exact⟨by decide,by decide⟩)
   have hr7:=Zk hrow6' ht7 (fun b hb hm=>by
    obtain rfl:b=kb:=by simpa using hm
    obtain⟨cs,hB⟩:=Q2 hrow6' hb;exact hB.ne_ hX6 (by decide) rfl)
   have hlt7:LoT lo kb mb w (w6.setCell ⟨kb,0,none⟩ (.slice VA (L++[c]).length vc)):=hlt6.trans (LoT.ofTouch ht7 (by have:=hlt6.size;omega) (fun i hi=>.inl (by simpa using hi)));have hfin:KnAt (w6.setCell ⟨kb,0,none⟩ (.slice VA (L++[c]).length vc)) lo kb mb (L++[c]):=⟨⟨_,_,hX7,hx7,hr7⟩,hA7,hl1,hl2⟩;replace hfin:=iD hfin;replace hlt7:=iD hlt7;clear hX7 hA7 hx7 hr7 ht7 hlt6 hrow6' hxr6 hA6 hX6 hC7 s4;go_wp2_with fail;go_returns;have hfe:=hfin.out;have hle:=hlt7.out;rw[lK,List.length_singleton] at hfe hle;exact⟨rfl,hfe,hle⟩
end
section
set_option maxRecDepth 100000
set_option maxHeartbeats 16000000
open Go.Lib renaming hid → iD
open Go.Proofs.Tryz
open Go.RowKit
theorem Zg.w0{w:World}{b:Nat}(h:Zg w b []):Yn w b []:=by
 obtain⟨xs,c,h1,h2⟩:=h;have h3:xs.toList=[]:=by simpa using h2
 exact⟨xs,c,h1,h2,by simp[h3],by simp[h3]⟩
theorem TreeM.start{w:World}{base tb nb mb ab:Nat}(h:TreeAt w tb nb mb ab 0 [] [] Z2)(hn:base<=nb)(hm:nb<mb)(ha:mb<ab)(ht:ab<tb):TreeM w base tb mb ab (fun _=>nb) (fun _ _=>Z2) J1 where
 lo:=⟨by omega,by omega,by omega,by omega⟩
 low:=fun _ _=>hn
 tree:=h.tree
 by_:=h.by_.w0
 added:=h.added.w0
 node:=fun k nd hk=>by
  rcases k with _ | k
  ·obtain rfl:nd=_:=(lM hk).symm;exact h.root
  ·simp[J1] at hk
 row:=fun k nd s hk=>by
  rcases k with _ | k
  ·obtain rfl:nd=_:=(lM hk).symm;cases s <;> exact⟨rfl,.inl ⟨rfl,rfl⟩⟩
  ·simp[J1] at hk
 sep:=fun k s k' s' g _ _ h=>by cases h
theorem Xu.lt_{w:World}{ok:Nat->Prop}{v:Value}{l:List POp}(h:Xu w ok v l):Xu w (· < w.heap.size) v l:=by
 exact h.stay (fun _ _ _=>rfl) (fun _ _ hlt=>hlt)
theorem Zcy(L:List PCom)(hH:HistOk L)(LV:Value)(ok:Nat->Prop)(w:World)(hL:CsIs w ok LV L)(hK:Y9 w) :
  Calls lG 23 #[LV] w fun e w'=>∃ NV,e=.returned (.tuple #[NV,.int .i64 0])/\Jd w' w.heap.size NV (Z5 L)/\Below w.heap.size w w':=by
 have hr:=iD (Zci L hH LV ok w hL hK);obtain⟨A,cap,hLV,_⟩:=hL.row;subst hLV;clear hL hK;go_enter func23,ntmps23;go_wp2_with fail;refine hr.out.mono ?_;rintro e w2 ⟨qb,NV,rfl,_,hN,_,hb⟩;obtain⟨NA,nc,rfl,_⟩:=hN.form;have hbf:=hb.trans ((lE w2.heap.size w2).alloc (lA _) (.cells #[.slice NA (Z5 L).length nc,.map (some qb)] 132) |>.mono hb.size);have hNf:=hN.keepB ((lE w2.heap.size w2).alloc (lA _) (.cells #[.slice NA (Z5 L).length nc,.map (some qb)] 132));replace hN:=iD hN;replace hb:=iD hb;clear hr;go_wp2_with fail;go_returns;exact⟨_,rfl,hNf,hbf⟩
theorem Zcz(L:List PCom)(hH:HistOk L)(ids:List Str)(hids:∀ d ∈ ids,∃ (j:Nat) (y:PNd),(Z5 L)[j]?=some y/\y.id=d)(hio:hOk ids)(hil:ids.length<=1000)(LV IV:Value)(ok:Nat->Prop)(w:World)(hL:CsIs w ok LV L)(hI:Z7 w ok IV ids)(hK:Y9 w) :
    Calls lG 26 #[LV,IV] w fun e w'=>∃ base tb mb ab ps V,e=.returned (.tuple #[.pointer (some ⟨tb,0,none⟩),.int .i64 0])/\w.heap.size<=base/\TreeM w' base tb mb ab ps V (J2 L ids)/\Below w.heap.size w w':=by
  have hlen:=hH.len;have hr:=iD (Zci L hH LV ok w hL hK);have hNl:(Z5 L).length=L.length:=by unfold Z5;rw[nJ]
  have hNok:=hH.ndsAll;obtain⟨N,hN⟩:∃ N,N=Z5 L:=⟨_,rfl⟩;have htr:∀ m,m<=L.length->TrOk L (Zv N ids) m (Ju L (Zv N ids) m):=by rw[hN];exact Z74 hH ids
  have hto:∀ (m:Nat) (c:PCom) (T:FT),L[m]?=some c->(Zv N ids)[m]?=some true->TrOk L (Zv N ids) m T->OpsOk T (idC c) c.ops:=by rw[hN];exact fun m c T h1 h2 h3=>Zco hH ids h1 h2 h3
  have hnd:∀ (m:Nat) (c:PCom),L[m]?=some c->N[m]?=some (Jc c):=by rw[hN];exact fun m c h=>Kg h
  unfold J2;rw[<-hN] at hr hNl hNok hids ⊢;have hLb:=iD (fun W (hb:Below w.heap.size w W)=>hL.stayB hb);have hIb:=iD (fun W (hb:Below w.heap.size w W)=>hI.stayB hb);obtain⟨A,cap,hLV,_⟩:=hL.row;obtain⟨IA,ic,hIVe,_,_⟩:=hI;subst hLV;subst hIVe;replace hN:=iD hN;replace htr:=iD htr;replace hto:=iD hto;replace hnd:=iD hnd;replace hNl:=iD hNl;have hMk:=iD (Qc hNok);clear hL hK hH;go_enter func26,ntmps26;go_wp2_with fail;refine hr.out.mono ?_;rintro e w2 ⟨qb,NV,rfl,hM2,hN2,hqb,hb2⟩;obtain⟨NA,nc,rfl,_⟩:=hN2.form;replace hN2:=iD hN2;replace hM2:=iD hM2;replace hb2:=iD hb2;clear hr;go_wp2_with fail;generalize hW3:lQ w2 (l6 _ 132)=w3;have hP3:Blk w3 w2.heap.size 132 [.slice NA N.length nc,.map (some qb)]:=by rw[<-hW3];exact Blk.new_at (cs:=[.slice NA N.length nc,.map (some qb)]) rfl
  have hb23:Below w2.heap.size w2 w3:=by rw[<-hW3];exact bL
  have hM3:=iD (hM2.out.below hb23 hM2.out.lt);have hN3:=iD ((hN2.out.keepB hb23).nds (fun x hx=>(hNok.fit x hx).1));have hb3:=iD (hb2.out.trans (hb23.mono hb2.out.size));replace hP3:=iD hP3;clear hW3 hb23 hM2 hN2 hb2;go_loopw [29] (fun i wr=>∃ m:Nat,m<=ids.length/\i=.int .i64 (m:Int)/\Below w3.heap.size w3 wr) (fun i _=>ids.length - (intOf i).toNat)
  case atStart=>exact⟨0,lL _,rfl,lE _ _⟩
  case round =>
    obtain⟨m,hm,rfl,hbr⟩:=hrel;have hbwr:=hb3.out.trans (hbr.mono hb3.out.size);by_cases hlt:m<ids.length
    · have hIr:=hIb.out _ hbwr
      obtain⟨ib,io,hIA,_,hbl,hc1⟩:=hIr.dig hio m hlt;subst hIA;obtain⟨d,hd⟩:∃ d,d=ids[m]:=⟨_,rfl⟩;have hdl':d.length=32:=by rw[hd];exact hio _ (lH _)
      obtain⟨j,y,hj,hy⟩:=hids d (by rw[hd];exact lH _);rw[<-hd] at hc1;have i1:(0:Int)<=(m:Int):=by omega
      have i2:(m:Int)<(ids.length:Int):=by omega
      have hMm:=iD (Qo hj);have hMu:=iD (Qp hNok hj);rw[hy] at hMm hMu;replace hbr:=iD hbr;replace hbwr:=iD hbwr;replace hc1:=iD hc1;replace hd:=iD hd;clear hIr;go_wp2_with (first
        | (refine l7 rfl 47 (.tmp 31) rfl ib (io+m*32) rfl (d.map B) _ (fun j v hv=>hc1.out j v hv) underlying47 rfl (Za hdl') ?_;go_frame)
        | (refine Zo rfl 47 (.tmp 10) (.tmp 32) rfl wr.heap.size (d.map B) rfl rfl 47 Z3 (Blk.new_at rfl) (by simp[hdl',Z3]) (Za hdl') (Yk _) ?_
           generalize hw1:l8 _ wr.heap.size (d.map B).toArray=w9;have hB9:Blk w9 wr.heap.size 47 (d.map B):=by
             rw[<-hw1];exact (Blk.new_at (w:=wr) (t:=47) (cs:=Z3) rfl).setRow_same (d.map B)
           have hb9:Below wr.heap.size wr w9:=by
             rw[<-hw1];exact below_setRow ((lE wr.heap.size wr).alloc (lA _) (.cells Z3.toArray 47)) (lA _) (d.map B).toArray
           clear hw1;have hb39:=hbr.out.trans (hb9.mono hbr.out.size);have hP9:=hP3.out.below hb39 hP3.out.lt;have p1:w9.cell? ⟨w2.heap.size,1,none⟩=some (.map (some qb)):=hP9.cell 1;have hrun9:=iD ((hM3.out.below hb39 hM3.out.lt).look_some Xz underlying26 hMk.out (Jm d hdl') hMm.out hMu.out true);replace hB9:=iD hB9;replace hb39:=iD hb39;clear hP9 hb9;go_frame)
        | (refine Y0 rfl 47 (.tmp 10) rfl wr.heap.size rfl 47 (d.map B) hB9.out _ underlying47 rfl (Za hdl') ?_)
        | (refine Ke rfl (.tuple #[.int .i64 (j:Int),.bool true]) (Jk 26 (.tmp 35) (.tmp 36) true rfl _ _ _ rfl rfl hrun9.out) ?_;go_frame)
        | fail)
      exact⟨⟨m+1,by omega,by go_num,hb39.out⟩,by simp[intOf];omega⟩
    · have hmt:m=ids.length:=by omega
      subst hmt;have hP4:=hP3.out.below hbr hP3.out.lt;have p0:wr.cell? ⟨w2.heap.size,0,none⟩=some (.slice NA N.length nc):=hP4.cell 0;have p1:wr.cell? ⟨w2.heap.size,1,none⟩=some (.map (some qb)):=hP4.cell 1;have hcall:=iD (Zby N hNok ids hids hio hil _ _ qb (fun _=>True) wr ((hN3.out.stayB hbr).stay (fun _ _ _=>rfl) (lA _) (fun _ _ _=>trivial)) (hM3.out.below hbr hM3.out.lt) ((hIb.out _ hbwr).stay (fun _ _ _=>rfl) (fun _ _ _=>trivial)));replace hbr:=iD hbr;replace hbwr:=iD hbwr;clear hP4;go_wp2_with fail;refine hcall.out.mono ?_;rintro e w4 ⟨sb,rfl,hS4,hsb,hb4⟩;have hb34:=hbr.out.trans (hb4.mono hbr.out.size);replace hS4:=iD hS4;replace hb4:=iD hb4;replace hb34:=iD hb34;clear hcall p0 p1;go_wp2_with fail;generalize hW5:lQ w4 _=w5;have hb45:Below w4.heap.size w4 w5:=by rw[<-hW5];exact bL
      have hV5:Blk w5 w4.heap.size 150 [.slice NA N.length nc,.map (some qb),.slice (some ⟨sb,0,none⟩) N.length N.length]:=by rw[<-hW5];exact Blk.new_at (cs:=[.slice NA N.length nc,.map (some qb),.slice (some ⟨sb,0,none⟩) N.length N.length]) rfl
      have hS5:=hS4.out.below hb45 hS4.out.lt;have hb35:=hb34.out.trans (hb45.mono hb34.out.size);clear hW5;replace hS5:=iD hS5;replace hV5:=iD hV5;replace hb35:=iD hb35;clear hb45 hS4 hb4 hb34;refine (Z98 _).mono ?_;rintro e w7 ⟨tb,nb,mb,ab,rfl,hT7,e1,e2,e3,e4,hb7⟩;have hTM:=iD (TreeM.start hT7 e1 e2 e3 e4);obtain⟨base,hbase⟩:∃ base,base=w5.heap.size:=⟨_,rfl⟩;rw[<-hbase] at hTM hb7;replace hb7:=iD hb7;clear hT7 e1 e2 e3 e4;go_wp2_with fail;have hb05:=iD (hb3.out.trans (hb35.out.mono hb3.out.size));have hlo:base=w5.heap.size:=hbase;have hbl:(Zv N ids).length=N.length:=Zbz N ids;have hbw:w.heap.size<=base:=by rw[hlo];exact hb05.out.size
      have hN5:=iD (hN3.out.stayB hb35.out);replace hlo:=iD hlo;replace hbase:=iD hbase;have hb7':=hb7;clear hM3 hN3 hb7;have hP5:=iD (show Blk w5 w2.heap.size 132 [.slice NA N.length nc,.map (some qb)] by exact hP3.out.below hb35.out hP3.out.lt);clear hP3;go_loopw [49] (fun i wr=>∃ (m:Nat) (ps:Nat->Nat) (V:Nat->Bool->Value),m<=L.length/\i=.int .i64 (m:Int)/\Below base w5 wr/\TreeM wr base tb mb ab ps V (Ju L (Zv N ids) m)) (fun i _=>L.length - (intOf i).toNat)
      case atStart=>exact⟨0,_,_,lL _,rfl,hb7'.out,hTM.out⟩
      case round =>
        obtain⟨m,ps,V,hm,rfl,hbr2,hT⟩:=hrel;have hbr5:Below w5.heap.size w5 wr:=by rw[<-hlo.out];exact hbr2
        have hb0r:=hb05.out.trans (hbr5.mono hb05.out.size);by_cases hlt:m<L.length
        · obtain⟨c,hcm⟩:∃ c,L[m]?=some c:=⟨_,lC hlt⟩
          obtain⟨_,_,he,hcom⟩:=(hLb.out _ (lE _ _)).row;obtain⟨cb,co,cs,hA,_,hcbl,hCI,hcc⟩:=hcom m c hcm
          injection he with he1 he2 he3
          subst he1;subst he3;subst hA;obtain⟨pv,ov,rfl,hPV,hOV⟩:=hCI;obtain⟨PA,pc,rfl,_,_⟩:=hPV;have hOw:=iD (fun W (hb:Below w.heap.size w W)=>(hOV.lt_.stay (w':=W) (ok':=(· < base)) (fun b h1 h2=>hb.block b h2) (fun b h1 h2=>Nat.lt_of_lt_of_le h2 hbw)));obtain⟨OA,oc,rfl,_,_⟩:=hOV;have hck:=fun j u (hj:[lD PA c.parents.length pc,Z0 c.author,Z0 c.note,.slice OA c.ops.length oc][j]?=some u)=>(hb0r.cell (p:=⟨cb,co+m*4+j,none⟩) hcbl).trans (hcc j u hj);have l0:wr.cell? ⟨cb,co+m*4,none⟩=some (.slice PA c.parents.length pc):=hck 0 _ rfl;have l1:wr.cell? ⟨cb,co+m*4+1,none⟩=some (Z0 c.author):=hck 1 _ rfl;have l2:wr.cell? ⟨cb,co+m*4+2,none⟩=some (Z0 c.note):=hck 2 _ rfl;have l3:wr.cell? ⟨cb,co+m*4+3,none⟩=some (.slice OA c.ops.length oc):=hck 3 _ rfl;have i1:(0:Int)<=(m:Int):=by omega
          have i2:(m:Int)<(L.length:Int):=by omega
          have i3:(m:Int)<(N.length:Int):=by have:=hNl.out;omega
          have hVr:=hV5.out.below hbr5 hV5.out.lt;have hSr:=hS5.out.below hbr5 hS5.out.lt;have hPr:=hP5.out.below hbr5 hP5.out.lt;have v1:∀ o,(wr.alloc o).cell? ⟨w4.heap.size,2,none⟩=some (.slice (some ⟨sb,0,none⟩) N.length N.length):=fun o=>(hVr.alloc o).cell 2;have sm:∀ o,(wr.alloc o).cell? ⟨sb,m,none⟩=some (.bool ((Zv N ids).getD m false)):=fun o=>by
            rw[(hSr.alloc o).cell,List.getElem?_map,nB];have hml:m<(Zv N ids).length:=by rw[hbl,hNl.out];exact hlt
            rw[lC hml];rfl
          replace hbr2:=iD hbr2;replace hbr5:=iD hbr5;replace hb0r:=iD hb0r;replace hT:=iD hT;replace hVr:=iD hVr;replace hSr:=iD hSr;replace hPr:=iD hPr;have hsuc:=iD (Z73 (bs:=Zv N ids) hcm);replace hcm:=iD hcm;clear hck hcom hcc hTM hb7';unfold Z0 at l1 l2;cases hbm:(Zv N ids).getD m false with
          | false =>
            rw[hbm] at sm;have hs2:Ju L (Zv N ids) (m+1)=Ju L (Zv N ids) m:=by rw[hsuc.out,if_neg (by rw[hbm];decide)]
            replace hs2:=iD hs2;replace hbm:=iD hbm;go_wp2_with fail;refine⟨⟨m+1,ps,V,by omega,by go_num,?_,?_⟩,by simp[intOf];omega⟩
            · exact hbr2.out.alloc (by rw[hlo.out];exact hbr5.out.size) _
            · rw[hs2.out]
              exact hT.out.calm bL
          | true =>
            rw[hbm] at sm;have hs2:Ju L (Zv N ids) (m+1)=U8 (Ju L (Zv N ids) m) (idC c) c.ops:=by rw[hsuc.out,if_pos hbm]
            have hbm':=Qf.1 hbm;have htok:=htr.out m hm;have hops:=hto.out m c _ hcm.out hbm' htok;have hndm:=hnd.out m c hcm.out;obtain⟨_,_,he,hnode⟩:=hN5.out.row;obtain⟨g,p,hNA,hgl,_,hidc,hpc,hpar⟩:=hnode m _ hndm
            injection he with he1 _ he3
            subst he1;subst he3;subst hNA;obtain⟨ds,hds⟩:∃ ds,ds=idC c:=⟨_,rfl⟩;have hdl:ds.length=32:=by rw[hds];rfl
            replace hs2:=iD hs2;replace hbm:=iD hbm;replace hidc:=iD hidc;go_upto_region 17 with fail;generalize hW8:lQ wr (l6 _ 82)=w8;have hb8:Below wr.heap.size wr w8:=by rw[<-hW8];exact bL
            have hX8:Blk w8 wr.heap.size 82 [.slice PA c.parents.length pc,.string ⟨c.author.toArray⟩,.string ⟨c.note.toArray⟩,.slice OA c.ops.length oc]:=by rw[<-hW8];exact Blk.new_at (cs:=[.slice PA c.parents.length pc,.string ⟨c.author.toArray⟩,.string ⟨c.note.toArray⟩,.slice OA c.ops.length oc]) rfl
            have hb08:=hb0r.out.trans (hb8.mono hb0r.out.size);have hb58:=hbr5.out.trans (hb8.mono hbr5.out.size);have p0:w8.cell? ⟨w2.heap.size,0,none⟩=some (.slice (some ⟨g,0,none⟩) N.length nc):=(hPr.out.below hb8 hPr.out.lt).cell 0;have x3:w8.cell? ⟨wr.heap.size,3,none⟩=some (.slice OA c.ops.length oc):=hX8.cell 3;have hD9:Hid (∀ w',(∃ n,w'=w8.drewN n)->∀ j v,(ds.map B)[j]?=some v->w'.cell? ⟨g,m*33+j,none⟩=some v):=iD (by
              rintro _ ⟨n,rfl⟩ j v hv;have : (w8.drewN n).cell? ⟨g,m*33+j,none⟩=w8.cell? ⟨g,m*33+j,none⟩:=rfl;rw[this,hb58.cell (p:=⟨g,m*33+j,none⟩) hgl];exact hidc.out j v (by show ((idC c).map B)[j]?=some v;rw[<-hds];exact hv))
            have hT8:=iD (hT.out.calm hb8);have hOb8:=hOw.out;replace hOb8:=iD hOb8;replace hb08:=iD hb08;replace hb58:=iD hb58;replace hds:=iD hds;replace htok:=iD htok;replace hops:=iD hops;have hbb8:Hid (Below base w5 w8):=iD (hbr2.out.trans (hb8.mono (by rw[hlo.out];exact hbr5.out.size)));clear hW8 hb8 hX8 hVr hSr hPr v1 sm l0 l1 l2 l3 hnode;refine Ye 9 (by kernel_rfl) (by kernel_rfl) ?_;simp only[lU,lV,lW,lP];repeat (first
              | go_big_quiet_step (fail)
              | (refine Vw 47 (.tmp 65) rfl rfl g (m*33) rfl (ds.map B) hD9.out _ underlying47 rfl (Za hdl) ?_;go_frame))
            refine lF ?_;rintro _ ⟨nq,rfl⟩;have hbq:Below w8.heap.size w8 (w8.drewN nq):=(Touch.drewN (L:=[]) nq).below (lA _) (fun _ hi=>by cases hi);have hT9:=hT8.out.calm hbq;have hb09:=hb08.out.trans (hbq.mono hb08.out.size);have hbb9:=hbb8.out.trans (hbq.mono (by rw[hlo.out];exact hb58.out.size));have hsz9:base<=(w8.drewN nq).heap.size:=by rw[hlo.out];exact hb58.out.size
            generalize w8.drewN nq=w9 at hT9 hb09 hbb9 hsz9 ⊢;have hcall:=Zlw _ htok.out.ok c.ops ds (by rw[hds.out];exact hops.out) base tb mb ab ps V _ (· < base) w9 hT9 (fun b hb=>hb) (hOb8.out w9 hb09) hsz9;replace hcall:=iD hcall;clear p0 x3 hD9 hbq;go_wp2_with fail;refine hcall.out.mono ?_;rintro e w10 ⟨rfl,hb10,ps',V',hT10⟩;have hbf:=hbb9.trans hb10;clear hcall hT9;go_wp2_with fail;have hTf:TreeM w10 base tb mb ab ps' V' (Ju L (Zv N ids) (m+1)):=by
              rw[hs2.out,<-hds.out];exact hT10
            refine⟨⟨m+1,ps',V',by omega,by go_num,hbf,hTf⟩,by simp[intOf];omega⟩
        · have hmt:m=L.length:=by omega
          subst hmt;have hbf:=hb0r.mono (lA _);replace hT:=iD hT;replace hbf:=iD hbf;clear hTM hb7' hbr2 hbr5 hb0r;go_wp2_with fail;go_returns;exact⟨base,tb,mb,ab,ps,V,rfl,hbw,hT.out,hbf.out⟩
theorem Zmw(L:List PCom)(hH:HistOk L)(ids:List Str)(hids:∀ d ∈ ids,∃ (j:Nat) (y:PNd),(Z5 L)[j]?=some y/\y.id=d)(hio:hOk ids)(hil:ids.length<=1000)(LV IV:Value)(ok:Nat->Prop)(w:World)(hL:CsIs w ok LV L)(hI:Z7 w ok IV ids)(hK:Y9 w) :
  Calls lG 21 #[LV,IV] w fun e w'=>e=.returned (.tuple #[Z0 (Xw (J2 L ids)),.int .i64 0])/\Below w.heap.size w w':=by
 have hc:=iD (Zcz L hH ids hids hio hil LV IV ok w hL hI hK);have hok:=iD (Z40 hH ids);obtain⟨A,cap,hLV,_⟩:=hL.row;obtain⟨IA,ic,hIVe,_,_⟩:=hI;subst hLV;subst hIVe;clear hK hL hids hio hH;obtain⟨T,hT⟩:∃ T,T=J2 L ids:=⟨_,rfl⟩;rw[<-hT] at hc hok ⊢;clear hT;unfold Z0;go_enter func21,ntmps21;go_wp2_with fail;refine hc.out.mono ?_;rintro e w2 ⟨base,tb,mb,ab,ps,V,rfl,_,hTM,hb⟩;have htx:=Zbr T hok.out.1 base tb mb ab ps V w2 hTM hok.out.2;unfold Z0 at htx;replace htx:=iD htx;replace hb:=iD hb;clear hTM;go_wp2_with fail;refine htx.out.mono ?_;rintro e w3 ⟨rfl,hb3⟩;have hbf:=hb.out.trans (hb3.mono hb.out.size);go_wp2_with fail;go_returns;exact⟨rfl,hbf⟩
end
section
set_option maxRecDepth 100000
set_option maxHeartbeats 8000000
open Go.Lib renaming hid → iD
open Go.Proofs.Tryz
open Go.RowKit
theorem NdOk.take{N:List PNd}(h:NdOk N)(m:Nat):NdOk (N.take m):=by
 have hat:∀ (i:Nat) (x:PNd),(N.take m)[i]?=some x->i<m/\N[i]?=some x:=fun i x hx=>by
  rw[l5] at hx;split at hx
  ·exact⟨by assumption,hx⟩
  ·cases hx
 refine⟨?_,fun x hx=>h.fit x (List.mem_of_mem_take hx),fun i j x y hx hy e=>h.inj i j x y (hat i x hx).2 (hat j y hy).2 e,fun i x hx d hd=>?_⟩
 ·have:=h.len;rw[nF];omega
 ·obtain⟨h1,h2⟩:=hat i x hx;obtain⟨j,y,hj,hy,e⟩:=h.back i x h2 d hd;exact⟨j,y,hj,by rw[l5,if_pos (by omega),hy],e⟩
theorem Zmx{N:List PNd}{m:Nat}{x:PNd}(h:N[m]?=some x):N.take (m+1)=N.take m++[x]:=by
 obtain⟨hl,hg⟩:=lB.1 h;rw[nG hl,hg]
theorem Zd0{w:World}{g o:Nat}{d:Str}{p:Value}(hd:d.length=32)(h1:∀ j v,(d.map B)[j]?=some v->w.cell? ⟨g,o+j,none⟩=some v)(h2:w.cell? ⟨g,o+32,none⟩=some p):∀ j v,(Yq d p)[j]?=some v->w.cell? ⟨g,o+j,none⟩=some v:=fun j v hv=>by
 unfold Yq at hv;by_cases hj:j<(d.map B).length
 ·rw[lI hj] at hv;exact h1 j v hv
 ·rw[lJ (by omega)] at hv;have hl:j - (d.map B).length<[p].length:=(lB.1 hv).1;have hj':j=32:=by simp[hd] at hl hj;omega
  subst hj';have e:(32:Nat) - (d.map B).length=0:=by simp[hd]
  rw[e] at hv;rw[<-(lM hv:p=v)];exact h2
theorem Zmy(N:List PNd)(hN:NdOk N)(x:PNd)(hxl:x.id.length=32)(hpo:hOk x.par)(hp8:x.par.length<=8)(hri:rises x.par=true)(hnew:∀ y ∈ N,y.id ≠ x.id)(hpar:∀ d ∈ x.par,∃ (j:Nat) (y:PNd),N[j]?=some y/\y.id=d)(p:Value)(b:Nat)(ok:Nat->Prop)(w:World)(hP:Z7 w ok p x.par)(hM:Zg w b (byN N)) :
    Calls lG 210 #[.agg (Yq x.id p).toArray,.map (some b)] w fun e w'=>e=.returned (.int .i64 0)/\Below w.heap.size w w':=by
  have hPb:=iD (fun W (hb:Below w.heap.size w W)=>hP.stayB hb);have hMb:=iD (fun W (hb:Below w.heap.size w W)=>hM.below hb hM.lt);obtain⟨PA,pc,rfl,_,_⟩:=hP;obtain⟨ps,hps⟩:∃ ps,ps=x.par:=⟨_,rfl⟩;obtain⟨ds,hds⟩:∃ ds,ds=x.id:=⟨_,rfl⟩;rw[<-hps] at hPb hpo hp8 hri hpar ⊢;rw[<-hds] at hxl hnew ⊢;clear hps hds;obtain⟨nc,hnc⟩:∃ nc,nc=Yq ds (.slice PA ps.length pc):=⟨_,rfl⟩;have hnd:nc.drop 0=ds.map B++[.slice PA ps.length pc]:=by rw[hnc];rfl
  have hn32:nc[32]?=some (.slice PA ps.length pc):=by rw[hnc];simp[Yq,hxl]
  rw[<-hnc];have hnone:=iD (Z1y (d:=ds) (N:=N) hnew);have hMk:=iD (Qc hN);have g8:decide ((8:Int)<(ps.length:Int))=false:=decide_eq_false (by omega);replace hpo:=iD hpo;replace hri:=iD hri;replace hpar:=iD hpar;replace hnc:=iD hnc;replace hnd:=iD hnd;clear hnew hM;go_enter func210,ntmps210;go_upto_region 1 with fail;generalize hW1:(w.alloc (.cells nc.toArray 94))=w1;have hN1:Blk w1 w.heap.size 94 nc:=by rw[<-hW1];exact Blk.new_at (cs:=nc) rfl
  have hb1:Below w.heap.size w w1:=by rw[<-hW1];exact bL
  have c32:w1.cell? ⟨w.heap.size,32,none⟩=some (.slice PA ps.length pc):=by have:=hN1.cell 32;rwa [hn32] at this
  replace hn32:=iD hn32;replace hN1:=iD hN1;replace hb1:=iD hb1;clear hW1;go_wp2_with fail;clear c32;go_loopw [19] (fun i wr=>∃ m:Nat,m<=ps.length/\i=.int .i64 (m:Int)/\Below w1.heap.size w1 wr) (fun i _=>ps.length - (intOf i).toNat)
  case atStart=>exact⟨0,lL _,rfl,lE _ _⟩
  case round =>
    obtain⟨m,hm,rfl,hbr⟩:=hrel;have hbwr:=hb1.out.trans (hbr.mono hb1.out.size);have hNr:=hN1.out.below hbr hN1.out.lt;have d0:wr.cell? ⟨w.heap.size,32,none⟩=some (.slice PA ps.length pc):=by have:=hNr.cell 32;rwa [hn32.out] at this
    by_cases hlt:m<ps.length
    · have i1:(0:Int)<=(m:Int):=by omega
      have i2:(m:Int)<(ps.length:Int):=by omega
      by_cases hm0:m=0
      · have g0:decide ((0:Int)<(m:Int))=false:=decide_eq_false (by omega)
        replace hbr:=iD hbr;replace hbwr:=iD hbwr;replace hNr:=iD hNr;go_wp2_with fail;refine Ye 14 (by kernel_rfl) (by kernel_rfl) ?_;simp only[lU,lV,lW,lP];repeat (first | go_big_quiet_step (fail))
        refine lF ?_;rintro _ ⟨nq,rfl⟩;have hbf:=hbr.out.trans ((Touch.drewN (L:=[]) nq).below hbr.out.size (fun _ hi=>by cases hi));go_wp2_with fail;refine⟨⟨0+1,by omega,by simp,hbf⟩,by simp[intOf];omega⟩
      · obtain⟨k,hk⟩:∃ k,m=k+1:=⟨m - 1,by omega⟩
        have hPr:=hPb.out _ hbwr;have hkl:k<ps.length:=by omega
        obtain⟨b,o,hA,_,hbl,hc1⟩:=hPr.dig hpo.out k hkl;obtain⟨b',o',hA',_,_,hc2⟩:=hPr.dig hpo.out m hlt;rw[hA] at hA';cases hA'
        subst hA;obtain⟨d1,hd1⟩:∃ d1,d1=ps[k]:=⟨_,rfl⟩;obtain⟨d2,hd2⟩:∃ d2,d2=ps[m]:=⟨_,rfl⟩;have hl1:d1.length=32:=by rw[hd1];exact hpo.out _ (lH _)
        have hl2:d2.length=32:=by rw[hd2];exact hpo.out _ (lH _)
        have hless:Ze d1 d2=true:=by
          have:=Z6i hri.out (k:=k) (by omega);rw[hd1,hd2];simpa[List.getD,hkl,hlt,<-hk] using this
        rw[<-hd1] at hc1;rw[<-hd2] at hc2;have g0:decide ((0:Int)<(m:Int))=true:=decide_eq_true (by omega);have g0':decide (0<m)=true:=decide_eq_true (by omega);have gw:IntKind.i64.wrap ((m:Int) - 1)=(k:Int):=by rw[show (m:Int) - 1=(k:Int) by omega];exact IntWalk.i64_in _ (by omega)
        have k1:(0:Int)<=(k:Int):=by omega
        have k2:(k:Int)<(ps.length:Int):=by omega
        have e1:Hid (∀ w',(∃ n,w'=wr.drewN n)->∀ j v,(d1.map B)[j]?=some v->w'.cell? ⟨b,o+k*32+j,none⟩=some v):=iD (by rintro _ ⟨n,rfl⟩;exact hc1);have e2:Hid (∀ w',(∃ n,w'=wr.drewN n)->∀ j v,(d2.map B)[j]?=some v->w'.cell? ⟨b,o+m*32+j,none⟩=some v):=iD (by rintro _ ⟨n,rfl⟩;exact hc2);have hcall:=iD (fun W=>Z2j d1 d2 hl1 hl2 W);rw[hless] at hcall;replace hbr:=iD hbr;replace hbwr:=iD hbwr;replace hNr:=iD hNr;replace hk:=iD hk;replace hd1:=iD hd1;replace hd2:=iD hd2;clear hPr hc1 hc2 hless hm0;go_wp2_with fail;refine Ye 14 (by kernel_rfl) (by kernel_rfl) ?_;simp only[lU,lV,lW,lP];repeat (first
          | go_big_quiet_step (fail)
          | (refine Vw 47 (.tmp 29) rfl rfl b (o+k*32) rfl (d1.map B) e1.out _ underlying47 rfl (Za hl1) ?_;go_frame)
          | (refine Vw 47 (.tmp 34) rfl rfl b (o+m*32) rfl (d2.map B) e2.out _ underlying47 rfl (Za hl2) ?_;go_frame))
        refine lF ?_;rintro _ ⟨nq,rfl⟩;have hbf:=iD (hbr.out.trans ((Touch.drewN (L:=[]) nq).below hbr.out.size (fun _ hi=>by cases hi)));go_wp2_with fail;refine (hcall.out _).mono ?_;rintro e w3 ⟨rfl,hb3⟩;have hb4:=iD (hbf.out.trans (hb3.mono hbf.out.size));clear hb3 hcall e1 e2;go_wp2_with fail;refine⟨⟨m+1,by omega,by go_num,hb4.out⟩,by simp[intOf];omega⟩
    · have hmt:m=ps.length:=by omega
      subst hmt;have hrun:=iD ((hMb.out _ hbwr).look_none Xz underlying26 (z:=.int .i64 0) (by kernel_rfl) hMk.out (Jm ds hxl) hnone.out true);replace hbr:=iD hbr;replace hbwr:=iD hbwr;replace hNr:=iD hNr;go_wp2_with (first
        | (refine K3 rfl 47 (.tmp 42) rfl w.heap.size 0 rfl 94 nc (ds.map B) [.slice PA ps.length pc] hNr.out hnd.out _ underlying47 rfl (Za hxl) ?_;go_frame)
        | (refine Ke rfl (.tuple #[.int .i64 0,.bool false]) (Jk 26 (.tmp 41) (.tmp 43) true rfl _ _ _ rfl rfl hrun.out) ?_;go_frame)
        | fail)
      clear hrun d0;have hws:=hb1.out.size;go_loopw [51] (fun i wv=>∃ m:Nat,m<=ps.length/\i=.int .i64 (m:Int)/\Below w1.heap.size w1 wv) (fun i _=>ps.length - (intOf i).toNat)
      case atStart=>exact⟨0,lL _,rfl,hbr.out⟩
      case round =>
        obtain⟨m,hm,rfl,hbv⟩:=hrel;have hbwv:=hb1.out.trans (hbv.mono hb1.out.size);by_cases hlt2:m<ps.length
        · obtain⟨ib,io,hIA,_,hbl,hc1⟩:=(hPb.out _ hbwv).dig hpo.out m hlt2
          subst hIA;obtain⟨d,hd⟩:∃ d,d=ps[m]:=⟨_,rfl⟩;have hdl':d.length=32:=by rw[hd];exact hpo.out _ (lH _)
          obtain⟨j,y,hj,hy⟩:=hpar.out d (by rw[hd];exact lH _);rw[<-hd] at hc1;have i1:(0:Int)<=(m:Int):=by omega
          have i2:(m:Int)<(ps.length:Int):=by omega
          have hMm:=iD (Qo hj);have hMu:=iD (Qp hN hj);rw[hy] at hMm hMu;replace hbv:=iD hbv;replace hbwv:=iD hbwv;replace hc1:=iD hc1;replace hd:=iD hd;go_wp2_with (first
            | (refine l7 rfl 47 (.tmp 53) rfl ib (io+m*32) rfl (d.map B) _ (fun j v hv=>hc1.out j v hv) underlying47 rfl (Za hdl') ?_;go_frame)
            | (refine Zo rfl 47 (.tmp 9) (.tmp 54) rfl wr.heap.size (d.map B) rfl rfl 47 Z3 (Blk.new_at rfl) (by simp[hdl',Z3]) (Za hdl') (Yk _) ?_
               generalize hw1:l8 _ wr.heap.size (d.map B).toArray=w9;have hB9:Blk w9 wr.heap.size 47 (d.map B):=by
                 rw[<-hw1];exact (Blk.new_at (w:=wr) (t:=47) (cs:=Z3) rfl).setRow_same (d.map B)
               have hb9:Below wr.heap.size wr w9:=by
                 rw[<-hw1];exact below_setRow ((lE wr.heap.size wr).alloc (lA _) (.cells Z3.toArray 47)) (lA _) (d.map B).toArray
               clear hw1;have hb39:=hbv.out.trans (hb9.mono hbv.out.size);have hrun9:=iD ((hMb.out _ (hb1.out.trans (hb39.mono hb1.out.size))).look_some Xz underlying26 hMk.out (Jm d hdl') hMm.out hMu.out true);replace hB9:=iD hB9;replace hb39:=iD hb39;clear hb9;go_frame)
            | (refine Y0 rfl 47 (.tmp 9) rfl wr.heap.size rfl 47 (d.map B) hB9.out _ underlying47 rfl (Za hdl') ?_)
            | (refine Ke rfl (.tuple #[.int .i64 (j:Int),.bool true]) (Jk 26 (.tmp 56) (.tmp 57) true rfl _ _ _ rfl rfl hrun9.out) ?_;go_frame)
            | fail)
          exact⟨⟨m+1,by omega,by go_num,hb39.out⟩,by simp[intOf];omega⟩
        · have hmt:m=ps.length:=by omega
          subst hmt;replace hbwv:=iD hbwv;go_wp2_with fail;go_returns;exact⟨rfl,hbwv.out⟩
end
end Go.Proofs.YtfdimggmljkkbaaGreatDoor
