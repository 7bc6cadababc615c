import Derived.Test.YtfdimggmljkkbaaGreatDoorP21
open Go renaming wpQuiet_nil → lG, wpList_load_mid → l2
open Go.Instr renaming lookup → nS
open Go.IntWalk renaming i64_in → l0
open Go.Obj renaming cells → lR
open Go.Proofs.Tryz renaming prog → lA
open Go.RowKit.Below renaming refl → lL
open Go.Value renaming bool → lI, oneCell' → lW, pointer → l6
open Go.World renaming alloc → lH, setRow → lX, cell? → nR
open List renaming getElem?_eq_getElem → lB, getElem_mem → lD, replicate → lF, getElem?_eq_some_iff → lJ, mem_flatMap → lM, length_map → lN, mem_range → lO, length_append → lP, take_succ_cons → lS, take_zero → lT, drop_succ_cons → lU, drop_zero → lV, mem_map → lY, take_length → l1, length_cons → l3, append_assoc → l4, getElem_map → l5, mem_cons → l7, nodup_cons → l8, flatMap_cons → l9, range → nA, mem_filter → nB, take_succ_eq_append_getElem → nC, map_append → nD, map_cons → nE, mem_append → nF, nodup_append → nG, filter_cons → nH, flatMap_append → nI, take_append_drop → nJ, getElem?_map → nK, map_take → nM, map_drop → nN, map_map → nO, map_congr_left → nP, length_set → nQ
open Nat renaming le_refl → lC, le_trans → lE, zero_le → lK, lt_of_lt_of_le → lQ
open Option renaming mem_toList → lZ
open Option.some renaming inj → nL
namespace Go.Proofs.YtfdimggmljkkbaaGreatDoor
section
open Go.RowKit
theorem Z0k{l:List FN}{f k:Nat}{nd:FN}(h:l[k]?=some nd):Zr l (f+1) k=nd.left.flatMap (Zr l f)++k :: nd.right.flatMap (Zr l f):=by
 rw[Zr,h]
theorem Z6q{l:List FN}:∀ (f k d:Nat),d ∈ Zr l f k->d=k ∨ ∃ p nd s,p ∈ Zr l f k/\l[p]?=some nd/\d ∈ Zd nd s
 | 0,k,d,h=>by simp[Zr] at h
 | f+1,k,d,h=>by
  cases hk:l[k]? with
  | none=>rw[Zr,hk] at h;simp at h
  | some nd =>
   have hself:k ∈ Zr l (f+1) k:=by rw[Z0k hk];simp
   have hsub:∀ s c,c ∈ Zd nd s->∀ e,e ∈ Zr l f c->e ∈ Zr l (f+1) k:=fun s c hc e he=>by
    rw[Z0k hk];cases s
    ·exact List.mem_append_right _ (List.mem_cons_of_mem _ (lM.2 ⟨c,hc,he⟩))
    ·exact List.mem_append_left _ (lM.2 ⟨c,hc,he⟩)
   have hgo:∀ s c,c ∈ Zd nd s->d ∈ Zr l f c->d=k ∨ ∃ p nd s,p ∈ Zr l (f+1) k/\l[p]?=some nd/\d ∈ Zd nd s:=fun s c hc hd=>by
    right;rcases Z6q f c d hd with rfl | ⟨p,nd',s',hp,hn,hm⟩
    ·exact⟨k,nd,s,hself,hk,hc⟩
    ·exact⟨p,nd',s',hsub s c hc p hp,hn,hm⟩
   rw[Z0k hk] at h;rcases nF.1 h with h | h
   ·obtain⟨c,hc,hd⟩:=lM.1 h;exact hgo true c hc hd
   ·rcases l7.1 h with h | h
    ·exact .inl h
    ·obtain⟨c,hc,hd⟩:=lM.1 h;exact hgo false c hc hd
theorem Gm{T:FT}(hT:FTok T):∀ (f k d:Nat),d ∈ Zr T.nodes f k->k<=d/\d<T.nodes.length
 | 0,k,d,h=>by simp[Zr] at h
 | f+1,k,d,h=>by
  cases hk:T.nodes[k]? with
  | none=>rw[Zr,hk] at h;simp at h
  | some nd =>
   obtain⟨hl,_⟩:=lJ.1 hk;have hgo:∀ s c,c ∈ Zd nd s->d ∈ Zr T.nodes f c->k<=d/\d<T.nodes.length:=fun s c hc hd=>by
    have h1:=hT.kids k nd s c hk hc;have h2:=Gm hT f c d hd;omega
   rw[Z0k hk] at h;rcases nF.1 h with h | h
   ·obtain⟨c,hc,hd⟩:=lM.1 h;exact hgo true c hc hd
   ·rcases l7.1 h with h | h
    ·omega
    ·obtain⟨c,hc,hd⟩:=lM.1 h;exact hgo false c hc hd
theorem Zbm{T:FT}(hT:FTok T){k:Nat}{nd:FN}(hk:T.nodes[k]?=some nd):∀ (d f f' c c':Nat) (s s':Bool),c ∈ Zd nd s->c' ∈ Zd nd s'->d ∈ Zr T.nodes f c->d ∈ Zr T.nodes f' c'->c=c':=by
 intro d;induction d using Nat.strongRecOn with
 | ind d ih =>
  intro f f' c c' s s' hc hc' hd hd';have g1:=hT.kids k nd s c hk hc;have g2:=hT.kids k nd s' c' hk hc';rcases Z6q f c d hd with e | ⟨p,np,sp,hp,hn,hm⟩ <;> rcases Z6q f' c' d hd' with e' | ⟨p',np',sp',hp',hn',hm'⟩
  ·omega
  ·subst e;have:=(hT.par k p' nd np' s sp' d hk hn' hc hm').1;have:=(Gm hT f' c' p' hp').1;omega
  ·subst e';have:=(hT.par k p nd np s' sp d hk hn hc' hm).1;have:=(Gm hT f c p hp).1;omega
  ·have e1:=(hT.par p p' np np' sp sp' d hn hn' hm hm').1;subst e1;have:=(hT.kids p np sp d hn hm).1;exact ih p this f f' c c' s s' hc hc' hp hp'
theorem Zbn{g:Nat->List Nat}:∀ (l:List Nat),l.Nodup->(∀ c ∈ l,(g c).Nodup)->(∀ c ∈ l,∀ c' ∈ l,∀ d,d ∈ g c->d ∈ g c'->c=c')->(l.flatMap g).Nodup
 | [],_,_,_=>by simp
 | a :: l,h,h1,h2=>by
  rw[l8] at h;rw[l9,nG];refine⟨h1 a (by simp),Zbn l h.2 (fun c hc=>h1 c (by simp[hc])) (fun c hc c' hc'=>h2 c (by simp[hc]) c' (by simp[hc'])),?_⟩;intro x hx y hy e;subst e;obtain⟨c,hc,hd⟩:=lM.1 hy;have:=h2 a (by simp) c (by simp[hc]) x hx hd;subst this;exact h.1 hc
theorem Z6r{T:FT}(hT:FTok T):∀ (f k:Nat),(Zr T.nodes f k).Nodup
 | 0,k=>by simp[Zr]
 | f+1,k=>by
  cases hk:T.nodes[k]? with
  | none=>rw[Zr,hk];simp
  | some nd =>
   rw[Z0k hk];have hs:∀ s,((Zd nd s).flatMap (Zr T.nodes f)).Nodup:=fun s=>Zbn _ (hT.once k nd s hk) (fun c _=>Z6r hT f c) (fun c hc c' hc' d hd hd'=>Zbm hT hk d f f c c' s s hc hc' hd hd');have hgt:∀ s d,d ∈ (Zd nd s).flatMap (Zr T.nodes f)->k<d:=fun s d hd=>by
    obtain⟨c,hc,hd⟩:=lM.1 hd;have h1:=hT.kids k nd s c hk hc;have h2:=Gm hT f c d hd;omega
   rw[nG];refine⟨hs true,l8.2 ⟨fun hm=>by have:=hgt false k hm;omega,hs false⟩,?_⟩;intro x hx y hy e;subst e;rcases l7.1 hy with e | hy
   ·have:=hgt true x hx;omega
   ·obtain⟨c,hc,hd⟩:=lM.1 hx;obtain⟨c',hc',hd'⟩:=lM.1 hy;have e1:=Zbm hT hk x f f c c' true false hc hc' hd hd';subst e1;have:=(hT.par k k nd nd true false c hk hk hc hc').2;cases this
theorem Z6s:∀ (l m:List Nat),l.Nodup->(∀ d ∈ l,d ∈ m)->l.length<=m.length
 | [],m,_,_=>lK _
 | a :: l,m,h,hm=>by
  rw[l8] at h;have ha:=hm a (by simp);have h1:=Z6s l (m.erase a) h.2 (fun d hd=>(List.mem_erase_of_ne (fun e=>h.1 (by rw[<-e];exact hd))).2 (hm d (by simp[hd])));rw[List.length_erase_of_mem ha] at h1;have:=List.length_pos_of_mem ha;rw[l3];omega
theorem Zln:∀ (n:Nat) (l:List Nat),l.Nodup->(∀ d ∈ l,d<n)->l.length<=n:=fun n l h hl=>by
 have h2:=Z6s l (nA n) h (fun d hd=>lO.2 (hl d hd));simpa using h2
theorem Z1x{T:FT}(hT:FTok T)(f k:Nat):(Zr T.nodes f k).length<=T.nodes.length:=Zln _ _ (Z6r hT f k) (fun d hd=>(Gm hT f k d hd).2)
theorem Zlo{T:FT}(hT:FTok T):(Y2 T).Nodup:=(Z6r hT _ _).sublist List.filter_sublist
theorem Zlp:∀ (l:List FN) (ks:List Nat),ks.Nodup->(∀ k ∈ ks,∃ nd,l[k]?=some nd/\nd.gone=false)->ks.length<=Qk l
 | l,ks,hn,hk=>by
  have h2:ks.length<=((nA l.length).filter fun k=>!((l[k]?).map (·.gone)).getD true).length:=Z6s _ _ hn (fun k hm=>by
   obtain⟨nd,h2,h3⟩:=hk k hm;obtain⟨h4,_⟩:=lJ.1 h2;rw[nB,lO];exact⟨h4,by simp[h2,h3]⟩)
  refine lE h2 (Nat.le_of_eq ?_);clear h2 hn hk;induction l with
  | nil=>rfl
  | cons a l ih =>
   rw[l3,List.range_succ_eq_map,nH];unfold Qk at ih ⊢;rw[List.countP_cons,<-ih,List.filter_map];have e:(fun k=>!((((a :: l)[k]?).map (·.gone)).getD true)) ∘ Nat.succ=fun k=>!((l[k]?).map (·.gone)).getD true:=by
    funext k
    simp
   rw[e];cases hg:a.gone <;> simp[hg]
theorem Zlq{T:FT}(hT:FTok T):((Y2 T).length:Int)<=T.seen:=by
 rw[hT.seen];have:=Zlp T.nodes (Y2 T) (Zlo hT) (fun k hk=>by
  unfold Y2 at hk;rw[nB] at hk;obtain⟨h1,h2⟩:=hk;have h3:=(Gm hT _ _ _ h1).2;refine⟨T.nodes[k],lB h3,?_⟩;rw[lB h3] at h2;simpa using h2)
 omega
end
section
set_option maxRecDepth 100000
set_option maxHeartbeats 4000000
open Go.Lib renaming hid → iD
open Go.Proofs.Tryz
open Go.RowKit
def Z0l(T:FT)(k:Nat):Bool:=((T.nodes[k]?).map (·.gone)).getD true
def Xp(T:FT)(ps:Nat->Nat)(ks:List Nat):List Value:=ks.flatMap fun k=>Oc (Z0l T k) (ps k)
theorem Z3q(T:FT)(ps:Nat->Nat)(a b:List Nat):Xp T ps (a++b)=Xp T ps a++Xp T ps b:=by simp[Xp]
theorem Zlr(T:FT)(ps:Nat->Nat){k:Nat}{nd:FN}(hk:T.nodes[k]?=some nd):Xp T ps [k]=Oc nd.gone (ps k):=by simp[Xp,Z0l,hk]
theorem Zbo(T:FT)(ps:Nat->Nat):∀ ks,(Xp T ps ks).length<=ks.length
 | []=>by simp[Xp]
 | k :: ks=>by
  have h:=Zbo T ps ks;unfold Xp at h ⊢;rw[l9,lP,l3];have : (Oc (Z0l T k) (ps k)).length<=1:=by cases Z0l T k <;> simp[Oc]
  omega
theorem Zbp(T:FT)(ps:Nat->Nat):∀ ks,Xp T ps ks=Y5 ((ks.filter fun k=>!Z0l T k).map ps)
 | []=>rfl
 | k :: ks=>by
  have h:=Zbp T ps ks;unfold Xp at h ⊢;rw[l9,h,nH];cases hg:Z0l T k <;> simp[Oc,Y5]
theorem Zls(T:FT)(ps:Nat->Nat):Xp T ps (Zr T.nodes T.nodes.length 0)=Y5 ((Y2 T).map ps):=Zbp T ps _
theorem Vi{w:World}{base:Nat}{v:Value}{ns:List Nat}(h:w.ownsRow base 233 1 v ns.length (Y5 ns)) :
  ∃ A cap,v=.slice A ns.length cap/\∀ i (hi:i<ns.length),∃ g,A=some ⟨g,0,none⟩/\g<w.heap.size/\w.cell? ⟨g,i,none⟩=some (ndP ns[i]):=by
 by_cases h0:0<ns.length
 ·obtain⟨g,cap,cur,rfl,_,hB,_,_,_,ht⟩:=Z6m h h0;refine⟨_,cap,rfl,fun i hi=>⟨g,rfl,hB.lt,?_⟩⟩;have h1:(cur.take ns.length)[i]?=cur[i]?:=List.getElem?_take_of_lt hi;rw[hB.cell,<-h1,ht];simp[Y5,hi]
 ·obtain⟨A,cap,hv,_,_⟩:=Z6 h;exact⟨A,cap,hv,fun i hi=>by omega⟩
theorem Z3r(g:Nat->List Nat){ks:List Nat}{m:Nat}(hm:m<ks.length):(ks.take (m+1)).flatMap g=(ks.take m).flatMap g++g ks[m]:=by
 rw[nC hm,nI];simp
theorem Zbq(g:Nat->List Nat)(ks:List Nat)(m:Nat):((ks.take m).flatMap g).length<=(ks.flatMap g).length:=by
 conv=>rhs;rw[<-nJ m ks]
 rw[nI,lP];omega
theorem Qm{r:PRef}(hr:r.com.length=32)(b:UInt8)(g:Bool)(x y:Value):(Zf r b g x y)[36]?=some x:=by simp[Zf,Z1,hr]
theorem Qn{r:PRef}(hr:r.com.length=32)(b:UInt8)(g:Bool)(x y:Value):(Zf r b g x y)[37]?=some y:=by simp[Zf,Z1,hr]
theorem Z3s(tb nb mb ab:Nat)(seen:Int)(w:World)(h:Blk w tb 245 (Jl nb mb ab seen)) :
  Calls lA 155 #[.pointer (some ⟨tb,0,none⟩)] w fun e w'=>e=.returned (.bool true)/\w'=w:=by
 have c0:w.cell? ⟨tb,0,none⟩=some (.pointer (some ⟨nb,0,none⟩)):=by rw[h.cell];rfl
 clear h;go_enter func155,ntmps155;go_wp2;go_ret;exact⟨rfl,rfl⟩
theorem Zlt(T:FT)(hTk:FTok T)(hnl:T.nodes.length<=400001)(base tb mb ab:Nat)(ps:Nat->Nat)(V:Nat->Bool->Value)(W0:World)(hM:TreeM W0 base tb mb ab ps V T)(lb fb cb:Nat)(hl:W0.heap.size<=lb):∀ (f k:Nat) (nd:FN) (xs:List Value) (W:World),
  T.nodes[k]?=some nd->T.nodes.length<=k+f->WalkSt W0 W lb fb cb xs->xs.length+(Zr T.nodes f k).length<=1000000000 ->
  Calls lA 258 #[.pointer (some ⟨ps k,0,none⟩),.pointer (some ⟨cb,0,none⟩),.pointer (some ⟨fb,0,none⟩)] W fun e W'=>e=.returned (.bool true)/\WalkSt W0 W' lb fb cb (xs++Xp T ps (Zr T.nodes f k)):=by
 intro f;induction f with
 | zero =>
  intro k nd xs W hk hf;have:=(lJ.1 hk).1;omega
 | succ f ih =>
  intro k nd xs W hk hf h hx;have hcom:=(hTk.com hk).1;rw[Z0k hk] at hx ⊢;have hn0:=hM.node k nd hk;have hn:Blk W (ps k) 235 (Zf nd.name nd.b nd.gone (V k true) (V k false)):=hn0.below h.below (lQ hn0.lt hl);have hLr:=hM.row k nd true hk;have hRr:=hM.row k nd false hk;rw[<-lN (f:=ps)] at hLr hRr;obtain⟨LA,lc,hVl,hLc⟩:=Vi hLr;obtain⟨RA,rc,hVr,hRc⟩:=Vi hRr;rw[lN] at hVl hVr;rw[hVl,hVr] at hn hn0;have hkids:∀ s c,c ∈ Zd nd s->∃ nd',T.nodes[c]?=some nd'/\T.nodes.length<=c+f:=fun s c hc=>by
   have h1:=hTk.kids k nd s c hk hc;exact⟨T.nodes[c],lB h1.2,by omega⟩
  have hcl:Hid (∀ W1 xs1 s i (hi:i<(Zd nd s).length),WalkSt W0 W1 lb fb cb xs1->xs1.length+(Zr T.nodes f (Zd nd s)[i]).length<=1000000000 ->
    Calls lA 258 #[.pointer (some ⟨ps (Zd nd s)[i],0,none⟩),.pointer (some ⟨cb,0,none⟩),.pointer (some ⟨fb,0,none⟩)] W1 fun e W'=>e=.returned (.bool true)/\WalkSt W0 W' lb fb cb (xs1++Xp T ps (Zr T.nodes f (Zd nd s)[i]))):=iD (fun W1 xs1 s i hi h1 hx1=>by
   obtain⟨nd',e1,e2⟩:=hkids s _ (lD hi);exact ih _ nd' xs1 W1 e1 e2 h1 hx1)
  have hlist:Hid (∀ W1 xs1,WalkSt W0 W1 lb fb cb xs1->xs1.length<=1000000000->Calls lA 208 #[.pointer (some ⟨ps k,0,none⟩),.pointer (some ⟨lb,0,none⟩)] W1 fun e W'=>e=.returned (.bool true)/\WalkSt W0 W' lb fb cb (xs1++Xp T ps [k])):=iD (fun W1 xs1 h1 hx1=>by
   rw[Zlr T ps hk];exact Zfx W0 W1 lb fb cb (ps k) xs1 nd.name nd.b nd.gone _ _ h1 (hn0.below h1.below (lQ hn0.lt hl)) hcom (by omega))
  obtain⟨L,hL⟩:∃ L,L=Zd nd true:=⟨_,rfl⟩;obtain⟨R,hR⟩:∃ R,R=Zd nd false:=⟨_,rfl⟩;have eL:nd.left=L:=hL.symm;have eR:nd.right=R:=hR.symm;have hcL:Hid (∀ W1 xs1 i (hi:i<L.length),WalkSt W0 W1 lb fb cb xs1->xs1.length+(Zr T.nodes f L[i]).length<=1000000000 ->
    Calls lA 258 #[.pointer (some ⟨ps L[i],0,none⟩),.pointer (some ⟨cb,0,none⟩),.pointer (some ⟨fb,0,none⟩)] W1 fun e W'=>e=.returned (.bool true)/\WalkSt W0 W' lb fb cb (xs1++Xp T ps (Zr T.nodes f L[i]))):=iD (by subst hL;exact fun W1 xs1 i hi=>hcl.out W1 xs1 true i hi)
  have hcR:Hid (∀ W1 xs1 i (hi:i<R.length),WalkSt W0 W1 lb fb cb xs1->xs1.length+(Zr T.nodes f R[i]).length<=1000000000 ->
    Calls lA 258 #[.pointer (some ⟨ps R[i],0,none⟩),.pointer (some ⟨cb,0,none⟩),.pointer (some ⟨fb,0,none⟩)] W1 fun e W'=>e=.returned (.bool true)/\WalkSt W0 W' lb fb cb (xs1++Xp T ps (Zr T.nodes f R[i]))):=iD (by subst hR;exact fun W1 xs1 i hi=>hcl.out W1 xs1 false i hi)
  have hLc':Hid (∀ i (hi:i<L.length),∃ g,LA=some ⟨g,0,none⟩/\g<W0.heap.size/\W0.cell? ⟨g,i,none⟩=some (ndP (ps L[i]))):=iD (by
   subst hL;intro i hi;obtain⟨g,e1,e2,e3⟩:=hLc i (by simpa using hi);exact⟨g,e1,e2,by rw[e3];simp⟩)
  have hRc':Hid (∀ i (hi:i<R.length),∃ g,RA=some ⟨g,0,none⟩/\g<W0.heap.size/\W0.cell? ⟨g,i,none⟩=some (ndP (ps R[i]))):=iD (by
   subst hR;intro i hi;obtain⟨g,e1,e2,e3⟩:=hRc i (by simpa using hi);exact⟨g,e1,e2,by rw[e3];simp⟩)
  rw[<-hL] at hn hn0;rw[<-hR] at hn hn0;rw[eL,eR] at hx ⊢;have c36:W.cell? ⟨ps k,36,none⟩=some (.slice LA L.length lc):=(hn.cell 36).trans (Qm hcom _ _ _ _);have hLl:L.length<T.nodes.length:=by rw[hL];exact hTk.slen k nd true hk
  have hRl:R.length<T.nodes.length:=by rw[hR];exact hTk.slen k nd false hk
  have hsp:=iD (fun ks=>Zbo T ps ks);replace hn0:=iD hn0;replace h:=iD h;replace hx:=iD hx;clear ih hcl hkids hLr hRr hLc hRc hn hVl hVr hL hR eL eR hM;go_enter func258,ntmps258;go_wp2_with fail;go_loopw [14] (fun i wr=>∃ m:Nat,m<=L.length/\i=.int .i64 m/\WalkSt W0 wr lb fb cb (xs++Xp T ps ((L.take m).flatMap (Zr T.nodes f)))) (fun i _=>L.length - (intOf i).toNat)
  case atStart=>exact⟨0,lK _,rfl,by simpa[Xp] using h.out⟩
  case round =>
   obtain⟨m,hm,rfl,hst⟩:=hrel;have hlenL:(xs++Xp T ps ((L.take m).flatMap (Zr T.nodes f))).length<=xs.length+((L.take m).flatMap (Zr T.nodes f)).length:=by
    rw[lP];have:=hsp.out ((L.take m).flatMap (Zr T.nodes f));omega
   have hxx:=hx.out;rw[lP,l3] at hxx;by_cases hlt:m<L.length
   ·obtain⟨g,rfl,hgl,hgc⟩:=hLc'.out m hlt;have cg:wr.cell? ⟨g,m,none⟩=some (ndP (ps L[m])):=by rw[hst.below.cell (p:=⟨g,m,none⟩) (lQ hgl hl)];exact hgc
    have ccb:wr.cell? ⟨cb,0,none⟩=some (U0 cb fb):=hst.cbB.cell 0;unfold U0 at ccb;have hf1:=Zbq (Zr T.nodes f) L (m+1);rw[Z3r _ hlt,lP] at hf1;have hcall:=iD (hcL.out wr _ m hlt hst (by omega));have i1:(0:Int)<=(m:Int):=by omega
    have i2:(m:Int)<(L.length:Int):=by omega
    clear hst hgc hcL hcR hlist hlenL hf1 hxx;go_wp2_with fail;refine hcall.out.mono ?_;rintro e W1 ⟨rfl,h1⟩;replace h1:=iD h1;go_wp2_with fail;refine⟨⟨m+1,by omega,by go_num,?_⟩,by simp[intOf];omega⟩;rw[Z3r _ hlt,Z3q,<-l4];exact h1.out
   ·have hmt:m=L.length:=by omega
    subst hmt;rw[l1] at hst hlenL;have cfb:wr.cell? ⟨fb,0,none⟩=some (Vz lb):=hst.fbB.cell 0;unfold Vz at cfb;have hcall:=iD (hlist.out wr _ hst (by omega));clear hst hcL hlist;go_wp2_with fail;refine hcall.out.mono ?_;rintro e W1 ⟨rfl,h1⟩;have hn1:=hn0.out.below h1.below (lQ hn0.out.lt hl);have c37:W1.cell? ⟨ps k,37,none⟩=some (.slice RA R.length rc):=(hn1.cell 37).trans (Qn hcom _ _ _ _);replace h1:=iD h1;clear hn1 hcall cfb;go_wp2_with fail;go_loopw [32] (fun i wr=>∃ m:Nat,m<=R.length/\i=.int .i64 m/\WalkSt W0 wr lb fb cb (xs++Xp T ps (L.flatMap (Zr T.nodes f))++Xp T ps [k]++Xp T ps ((R.take m).flatMap (Zr T.nodes f)))) (fun i _=>R.length - (intOf i).toNat)
    case atStart=>exact⟨0,lK _,rfl,by simpa[Xp] using h1.out⟩
    case round =>
     obtain⟨m,hm,rfl,hst⟩:=hrel;by_cases hlt:m<R.length
     ·obtain⟨g,rfl,hgl,hgc⟩:=hRc'.out m hlt;have cg:wr.cell? ⟨g,m,none⟩=some (ndP (ps R[m])):=by rw[hst.below.cell (p:=⟨g,m,none⟩) (lQ hgl hl)];exact hgc
      have ccb:wr.cell? ⟨cb,0,none⟩=some (U0 cb fb):=hst.cbB.cell 0;unfold U0 at ccb;have hf1:=Zbq (Zr T.nodes f) R (m+1);rw[Z3r _ hlt,lP] at hf1;have hcall:=iD (hcR.out wr _ m hlt hst (by
       rw[lP,lP];have e1:=hsp.out ((R.take m).flatMap (Zr T.nodes f));have e2:=hsp.out [k];rw[List.length_singleton] at e2;omega))
      have i1:(0:Int)<=(m:Int):=by omega
      have i2:(m:Int)<(R.length:Int):=by omega
      clear hst hgc hcR hlenL hf1 hxx;go_wp2_with fail;refine hcall.out.mono ?_;rintro e W2 ⟨rfl,h2⟩;replace h2:=iD h2;go_wp2_with fail;refine⟨⟨m+1,by omega,by go_num,?_⟩,by simp[intOf];omega⟩;rw[Z3r _ hlt,Z3q,<-l4];exact h2.out
     ·have hmt:m=R.length:=by omega
      subst hmt;rw[l1] at hst;replace hst:=iD hst;go_wp2_with fail;go_ret;refine⟨rfl,?_⟩;have h9:=hst.out;rw[show L.flatMap (Zr T.nodes f)++k :: R.flatMap (Zr T.nodes f)=L.flatMap (Zr T.nodes f)++([k]++R.flatMap (Zr T.nodes f)) from rfl,Z3q,Z3q,<-l4,<-l4];exact h9
theorem Zlu(T:FT)(hTk:FTok T)(base tb mb ab:Nat)(ps:Nat->Nat)(V:Nat->Bool->Value)(w W:World)(lb:Nat)(h:TreeM w base tb mb ab ps V T)(hnl:T.nodes.length<=400001)(hlb:lb=w.heap.size)(hW:W=w.alloc (.cells #[Z2] 231)) :
  Calls lA 207 #[.pointer (some ⟨tb,0,none⟩),Vz lb] W fun e W'=>e=.returned (.tuple #[])/\Below lb w W'/\∃ V,Blk W' lb 231 [V]/\W'.ownsRow lb 233 1 V (Y2 T).length (Y5 ((Y2 T).map ps)):=by
 obtain⟨r0,hr0,_⟩:=hTk.root;have hsW:W.heap.size=lb+1:=by rw[hW,hlb];simp
 have hbW:Below lb w W:=by rw[hW,hlb];exact bL
 have hBl:Blk W lb 231 [Z2]:=by rw[hW];exact Blk.new_at (cs:=[Z2]) hlb
 have hT:TreeM W base tb mb ab ps V T:=h.calm (by rw[<-hlb];exact hbW);have hmade:=iD (fun W' (hB:Blk W' tb 245 (Jl (ps 0) mb ab T.seen))=>Z3s tb (ps 0) mb ab T.seen W' hB);have hTb:=iD (fun W2 (hb:Below W.heap.size W W2)=>(hT.calm hb).tree);have c0:(W.alloc (.cells #[Vz lb] 313)).cell? ⟨tb,0,none⟩=some (.pointer (some ⟨ps 0,0,none⟩)):=(hTb.out _ bL).cell 0;obtain⟨W3,hW3⟩:∃ W3,W3=(W.alloc (.cells #[Vz lb] 313)).alloc (.cells #[U0 (W.heap.size+1) W.heap.size] 313):=⟨_,rfl⟩;have hb3:Below W.heap.size W W3:=by rw[hW3];exact bL.alloc (by simp) _
 have hst:WalkSt w W3 lb W.heap.size (W.heap.size+1) []:=by
  refine⟨hbW.trans (hb3.mono (by omega)),by rw[hW3];simp,by omega,by omega,?_,?_,Z2,hBl.below hb3 (by omega),rfl,.inl ⟨rfl,rfl⟩⟩
  ·rw[hW3];exact (Blk.new_at (cs:=[Vz lb]) rfl).alloc _
  ·rw[hW3];exact Blk.new_at (cs:=[U0 (W.heap.size+1) W.heap.size]) (by simp)
 have c3:W3.cell? ⟨tb,0,none⟩=some (.pointer (some ⟨ps 0,0,none⟩)):=(hTb.out _ hb3).cell 0;have cb3:W3.cell? ⟨W.heap.size+1,0,none⟩=some (U0 (W.heap.size+1) W.heap.size):=hst.cbB.cell 0;have hlen:=Z1x hTk T.nodes.length 0;have hcall:=iD (fun n=>Zlt T hTk hnl base tb mb ab ps V w h lb W.heap.size (W.heap.size+1) (by omega) T.nodes.length 0 r0 [] (W3.drewN n) hr0 (by omega) (hst.drewN n) (by simp;omega));unfold U0 Vz at hW3;unfold U0 at cb3;clear hst hb3 hlen;clear h hW;replace hlb:=iD hlb;replace hsW:=iD hsW;replace hbW:=iD hbW;replace hBl:=iD hBl;replace hT:=iD hT;replace hW3:=iD hW3;unfold Vz at c0 ⊢;go_enter func207,ntmps207;go_wp2_with fail;refine (hmade.out _ (hTb.out _ bL)).mono ?_;rintro e W2 ⟨rfl,rfl⟩;go_wp2_with fail;rw[<-hW3.out];refine Ye 5 (by kernel_rfl) (by kernel_rfl) ?_;simp only[lS,lT,lU,lV];repeat (first | go_big_quiet_step (fail))
 refine lG ?_;rintro _ ⟨nq,rfl⟩;go_wp2_with fail;refine (hcall.out nq).mono ?_;rintro e w4 ⟨rfl,h4⟩;obtain⟨V4,hV4,ho4⟩:=h4.row;have hbl:=iD h4.below;rw[List.nil_append,Zls] at ho4;replace hV4:=iD hV4;have hll:(Y5 ((Y2 T).map ps)).length=(Y2 T).length:=by simp[Y5]
 rw[hll] at ho4;replace ho4:=iD ho4;have hfl:=h4.lf;have hfc:=h4.fc;clear h4;go_wp2_with fail;refine bodyPost_end (v:=.tuple #[]) (results_none (by rfl) _ _ _) rfl ⟨rfl,hbl.out,_,hV4.out,Zfw (by omega) ho4.out⟩
theorem Z6t(T:FT)(hTk:FTok T)(base tb mb ab:Nat)(ps:Nat->Nat)(V:Nat->Bool->Value)(w:World)(h:TreeM w base tb mb ab ps V T)(hnl:T.nodes.length<=400001) :
  Calls lA 150 #[.pointer (some ⟨tb,0,none⟩)] w fun e w'=>∃ V,e=.returned V/\w'.ownsRow w.heap.size 233 1 V (Y2 T).length (Y5 ((Y2 T).map ps))/\Below w.heap.size w w':=by
 have hcall:=iD (Zlu T hTk base tb mb ab ps V w (w.alloc (.cells #[Z2] 231)) w.heap.size h hnl rfl rfl);clear h;unfold Vz at hcall;go_enter func150,ntmps150;go_wp2_with fail;refine hcall.out.mono ?_;rintro e w2 ⟨rfl,hb,V,hV,ho⟩;have cV:w2.cell? ⟨w.heap.size,0,none⟩=some V:=hV.cell 0;replace hb:=iD hb;replace ho:=iD ho;obtain⟨FA,fc,rfl,_,_⟩:=Z6 ho.out;clear hV;go_wp2_with fail;go_ret;exact⟨_,rfl,ho.out,hb.out⟩
theorem Z6u{T:FT}(hT:FTok T){i:Nat}(hi:i<(Y2 T).length):∃ nd,T.nodes[(Y2 T)[i]]?=some nd/\nd.gone=false:=by
 have h:=lD hi;unfold Y2 at h;rw[nB] at h;obtain⟨h1,h2⟩:=h;have h3:=(Gm hT _ _ _ h1).2;refine⟨_,lB h3,?_⟩;rw[lB h3] at h2;simpa using h2
theorem Zlv{T:FT}{i:Nat}(hi:i<(Y2 T).length){nd:FN}(hn:T.nodes[(Y2 T)[i]]?=some nd):(Xw T)[i]?=some nd.b:=by
 unfold Xw;rw[nK,lB hi];simp[hn]
theorem Z6v(T:FT):(Xw T).length=(Y2 T).length:=by unfold Xw;simp
theorem Z6w{r:PRef}(hr:r.com.length=32)(b:UInt8)(g:Bool)(x y:Value):(Zf r b g x y)[34]?=some (B b):=by simp[Zf,Z1,hr]
theorem Zbr(T:FT)(hTk:FTok T)(base tb mb ab:Nat)(ps:Nat->Nat)(V:Nat->Bool->Value)(w:World)(h:TreeM w base tb mb ab ps V T)(hnl:T.nodes.length<=400001) :
  Calls lA 77 #[.pointer (some ⟨tb,0,none⟩)] w fun e w'=>e=.returned (Z0 (Xw T))/\Below w.heap.size w w':=by
 have hcall:=iD (Z6t T hTk base tb mb ab ps V w h hnl);obtain⟨t,ht⟩:∃ t,t=Xw T:=⟨_,rfl⟩;have hnl':Hid ((Y2 T).length=t.length):=iD (by rw[ht,Z6v]);have htl:t.length<=400001:=by
  rw[<-hnl'.out];have h1:=Z1x hTk T.nodes.length 0;have h2:(Y2 T).length<=(Zr T.nodes T.nodes.length 0).length:=List.length_filter_le _ _;omega
 have hnode:Hid (∀ (i:Nat) (hi:i<t.length),∃ nb,(Y5 ((Y2 T).map ps))[i]?=some (.pointer (some ⟨nb,0,none⟩))/\nb<w.heap.size/\w.cell? ⟨nb,34,none⟩=some (B t[i])):=iD (by
  intro i hi;have hi':i<(Y2 T).length:=by rw[hnl'.out];exact hi
  obtain⟨nd,h1,_⟩:=Z6u hTk hi';have h2:=h.node _ nd h1;refine⟨ps (Y2 T)[i],by simp[Y5,hi'],h2.lt,?_⟩;rw[h2.cell,Z6w (hTk.com h1).1];have h3:=Zlv hi' h1;rw[<-ht,lB hi] at h3;rw[nL h3])
 have hplen:(Y5 ((Y2 T).map ps)).length=t.length:=by simp[Y5,hnl'.out]
 obtain⟨pl,hpl'⟩:∃ pl,pl=Y5 ((Y2 T).map ps):=⟨_,rfl⟩;rw[<-ht,<-hpl'] at *;rw[hnl'.out] at hcall;have hpl:=iD hplen;clear h ht hpl' hplen hnl';go_enter func77,ntmps77;go_wp2_with fail;refine hcall.out.mono ?_;rintro e w2 ⟨V,rfl,ho,hb⟩;obtain⟨LA,lc,rfl,_,_⟩:=Z6 ho;have hrd:=iD (Ua ho);clear ho;replace hb:=iD hb;go_wp2_with fail;go_loopw [3,9] (fun b i wr=>∃ m:Nat,m<=t.length/\i=.int .i64 m/\wr.ownsRow w2.heap.size 5 1 b m ((t.take m).map B)/\Below w2.heap.size w2 wr) (fun _ i _=>t.length - (intOf i).toNat)
 case atStart=>exact⟨0,lK _,rfl,⟨rfl,.inl ⟨rfl,rfl⟩⟩,lL _ _⟩
 case round =>
  obtain⟨m,hm,rfl,hrow,hbr⟩:=hrel;obtain⟨FA,fc,rfl,_,_⟩:=Z6 hrow;by_cases hlt:m<t.length
  ·obtain⟨nb1,hp,hnb,hcell⟩:=hnode.out m hlt;obtain⟨b,o,rfl,_,hbl,hcells⟩:=hrd.out.at (by rw[hpl.out];omega);have cP:wr.cell? ⟨b,o+m,none⟩=some (.pointer (some ⟨nb1,0,none⟩)):=by rw[hbr.cell (p:=⟨b,o+m,none⟩) hbl];exact hcells m _ hp
   have cB:wr.cell? ⟨nb1,34,none⟩=some (B t[m]):=by
    rw[hbr.cell (p:=⟨nb1,34,none⟩) (lQ hnb hb.out.size),hb.out.cell (p:=⟨nb1,34,none⟩) hnb];exact hcell
   have htk:=iD (Z9c hlt);have hln:=iD (show (t.take m).length=m by simp;omega);obtain⟨c,hcc⟩:∃ c,c=t[m]:=⟨_,rfl⟩;obtain⟨zs,hzs⟩:∃ zs,zs=t.take m:=⟨_,rfl⟩;rw[<-hcc] at cB htk;rw[<-hzs] at htk hrow hln;replace hrow:=iD hrow;replace hbr:=iD hbr;have i1:(0:Int)<=(m:Int):=by omega
   have i2:(m:Int)<(t.length:Int):=by omega
   clear hp hcell hcells hcc hzs;go_wp2_with (at_builtin;refine X0 _ rfl (.tmp 13) (.tmp 18) 99 rfl w2.heap.size 5 (B 0) 1 1 underlying99 Kc (.slice FA m fc) m (zs.map B) rfl (hrow.out.alloc _) (fun _=>True) (some ⟨wr.heap.size,0,none⟩) 1 1 [B c] rfl rfl (Rd.of_blk (cs:=[B c]) (r:=[]) (Blk.new_at rfl) rfl trivial) (by simp[lW]) (by unfold maxLen;omega) (by omega) (by have:=hbr.out.size;simp;omega) ?_;intro v4 W4 hrow4 hg4 hv4;replace hrow4:=iD hrow4;replace hg4:=iD hg4;clear hv4;obtain⟨GA,gc,rfl,_,_⟩:=Z6 hrow4.out;go_frame);go_roundw
   case rel =>
    have hsz:=hbr.out.size;refine⟨m+1,by omega,?_,?_,?_⟩
    ·go_num
    ·have h5:=hrow4.out;rw[htk.out,nD];exact h5
    ·exact (hbr.out.alloc hsz _).trans (Yd (hrow.out.alloc _) hg4.out (by simp;omega))
   case measure=>simp[intOf];omega
  ·have hmt:m=t.length:=by omega
   subst hmt;replace hrow:=iD hrow;have hbr':=iD hbr;have hr3:=Ua hrow.out;rw[l1] at hr3;replace hr3:=iD hr3;clear hbr;go_wp2_with (refine Z89 rfl 99 9 (.tmp 21) rfl 5 underlying99 underlying5 underlying9 FA t fc rfl hr3.out ?_;go_frame);go_ret;exact⟨rfl,hb.out.trans (hbr'.out.mono hb.out.size)⟩
end
section
set_option maxRecDepth 100000
set_option maxHeartbeats 16000000
open Go.Lib renaming hid → iD
open Go.Proofs.Tryz
open Go.RowKit
open Go.Maps Go.MapKept Go.ChangeMaps
theorem Z3t(nms:List PRef)(nm:PRef):∀ (f i j:Nat),i<=j->bsL nms nm f i j<=j
 | 0,i,j,h=>h
 | f+1,i,j,h=>by
  by_cases hij:i<j
  ·rw[Zbi _ _ _ _ _ hij];split
   ·exact Z3t nms nm f _ _ (by omega)
   ·exact lE (Z3t nms nm f _ _ (by omega)) (by omega)
  ·rw[Z6l _ _ _ _ _ hij];exact h
theorem Zbs(base:Nat)(v:Value)(ns:List Nat)(nms:List PRef)(x:Nat)(nm:PRef)(hl:nms.length=ns.length)(hnl:ns.length<=1000000)(w:World)
  (ho:w.ownsRow base 233 1 v ns.length (Y5 ns)) (hord:∀ i (h1:i<ns.length) (h2:i<nms.length) W,Below w.heap.size w W->Calls lA 159 #[.pointer (some ⟨ns[i],0,none⟩),.pointer (some ⟨x,0,none⟩)] W fun e w'=>e=.returned (.int .i64 (U7 nms[i] nm))/\Below W.heap.size W w') :
  Calls lA 158 #[v,.pointer (some ⟨x,0,none⟩),.func (.func 159) #[] #[]] w fun e w'=>∃ q:Bool,e=.returned (.tuple #[.int .i64 (bsL nms nm (ns.length+1) 0 ns.length:Nat),.bool q])/\Below w.heap.size w w':=by
 rcases ho with ⟨h1,⟨rfl,h0⟩ | ⟨g,cap,cur,rfl,_,hg,h2,h3,h4,h5⟩⟩
 ·refine (Zj6 _ _ w).mono ?_;rintro e w' ⟨rfl,rfl⟩;refine⟨false,?_,lL _ _⟩;rw[h0,Z6l _ _ _ _ _ (by omega)];rfl
 ·refine Zlf g ns.length cap ns (cur.toList.drop (ns.length*1)) nms x nm rfl hl hnl w ?_ hord;unfold Blk;rw[<-h5,nJ];simpa using hg
theorem Zbt{r:PRef}(hr:r.com.length=32)(b:UInt8)(g:Bool)(x y:Value):(Zf r b g x y)[35]?=some (.bool g):=by simp[Zf,Z1,hr]
theorem Zbu{r:PRef}(hr:r.com.length=32)(b:UInt8)(g:Bool)(x y:Value):(Zf r b g x y).set 35 (.bool true)=Zf r b true x y:=by simp[Zf,Z1,hr]
theorem Zbv{r:PRef}(hr:r.com.length=32)(b:UInt8)(g:Bool)(x y u:Value):(Zf r b g x y).set 36 u=Zf r b g u y:=by simp[Zf,Z1,hr]
theorem Zbw{r:PRef}(hr:r.com.length=32)(b:UInt8)(g:Bool)(x y u:Value):(Zf r b g x y).set 37 u=Zf r b g x u:=by simp[Zf,Z1,hr]
theorem Zlw(T:FT)(hTk:FTok T)(l:List POp)(id:Str)(ho:OpsOk T id l)(base tb mb ab:Nat)(ps:Nat->Nat)(V:Nat->Bool->Value)(o:Value)(ok:Nat->Prop)(w:World)(hT:TreeM w base tb mb ab ps V T)(hok:∀ b,ok b->b<base)(h:Xu w ok o l)(hbase:base<=w.heap.size) :
    Calls lA 86 #[.pointer (some ⟨tb,0,none⟩),.agg (id.map B).toArray,o] w fun e w'=>e=.returned (.int .i64 0)/\Below base w w'/\∃ ps' V',TreeM w' base tb mb ab ps' V' (U8 T id l):=by
  have hid:=ho.idl;have hll:=ho.len;have hroom:=ho.room;obtain⟨OA,oc,rfl,hoc,hor⟩:=h;have hO:Hid (Xu w ok (.slice OA l.length oc) l):=iD ⟨OA,oc,rfl,hoc,hor⟩;clear hor hoc;generalize hW1:(w.alloc (.cells (id.map B).toArray 47))=w1;have hb1:Below w.heap.size w w1:=by rw[<-hW1];exact bL
  have hI:Blk w1 w.heap.size 47 (id.map B):=by rw[<-hW1];exact Blk.new_at (cs:=id.map B) rfl
  have hT1:=hT.calm hb1;have hmade:=iD (Z3s tb (ps 0) mb ab T.seen w1 hT1.tree);have hwr:=iD (Zlm T hTk l id ho base tb mb ab ps V (.slice OA l.length oc) ok w1 hT1 (hO.out.stayB hb1));replace hI:=iD hI;replace hT1:=iD hT1;replace hb1:=iD hb1;replace hTk:=iD hTk;replace ho:=iD ho;clear hT;go_enter func86,ntmps86;go_wp2_with fail;refine hmade.out.mono ?_;rintro e w2 ⟨rfl,rfl⟩;go_wp2_with (first
    | (refine Y0 rfl 47 (.tmp 4) rfl w.heap.size rfl 47 (id.map B) hI.out _ underlying47 rfl (Za hid) ?_)
    | fail)
  refine hwr.out.mono ?_;rintro e w3 ⟨rfl,hb3⟩;have hI3:=hI.out.below hb3 hI.out.lt;have hT3:=hT1.out.calm hb3;have hb3':=hb1.out.trans (hb3.mono hb1.out.size);have c2:w3.cell? ⟨tb,2,none⟩=some (.map (some ab)):=hT3.tree.cell 2;clear hmade hwr hb3 hI hT1 hb1 hW1;have hI4:Hid (∀ w',(∃ n,w'=w3.drewN n)->Blk w' w.heap.size 47 (id.map B)):=iD (by rintro _ ⟨n,rfl⟩;exact hI3.drewN n);replace hI3:=iD hI3;replace hT3:=iD hT3;replace hb3':=iD hb3';go_wp2_with fail;refine Ye 7 (by kernel_rfl) (by kernel_rfl) ?_;simp only[lS,lT,lU,lV];repeat (first
    | go_big_quiet_step (fail)
    | (refine Yf 47 (.tmp 4) rfl rfl w.heap.size 0 rfl 47 (id.map B) (id.map B) [] hI4.out (by simp) _ underlying47 rfl (Za hid) ?_;go_frame))
  refine lG ?_;rintro _ ⟨nq,rfl⟩;have hT3q:=hT3.out.drewN nq;obtain⟨w4,hrun,hA4,ht4⟩:=hT3q.added.store Xz underlying26 (Z6p hTk.out) (Jm id hid) (Zbl ho.out.new) (.int .i64 l.length);have htab:Touch [ab] (w3.drewN nq) w4:=V9 ht4;refine Ol rfl (Ok 26 (.tmp 28) (.tmp 29) (.tmp 31) rfl _ _ _ rfl rfl rfl hrun) ?_;have hT4:=hT3q.note id l.length htab hA4;have hbab:base<=ab:=hT3q.lo.2.2.1;have hb4:Below base w w4:=by
    have h0:=hb3'.out.mono hbase;have h1:Below base w3 (w3.drewN nq):=(Touch.drewN (L:=[]) nq).below (lE hbase hb3'.out.size) (fun _ hi=>by cases hi);have h2:Below base (w3.drewN nq) w4:=htab.below (lE hbase (lE hb3'.out.size h1.size)) (fun i hi=>by
      obtain rfl:i=ab:=by simpa using hi
      exact hbab)
    exact (h0.trans h1).trans h2
  have hI5:Blk w4 w.heap.size 47 (id.map B):=(hI3.out.drewN nq).touch htab (by
    have:=hT3q.added.ne_blk (hI3.out.drewN nq);simpa using this)
  clear hrun hA4 ht4 hI4 c2 hT3q hbab htab;replace hT4:=iD hT4;replace hI5:=iD hI5;replace hb4:=iD hb4;go_wp2_with fail;go_loopw [34] (fun i wr=>∃ (m:Nat) (ps:Nat->Nat) (V:Nat->Bool->Value),m<=l.length/\i=.int .i64 m/\TreeM wr base tb mb ab ps V (Uu T id l m)/\Below base w wr/\Blk wr w.heap.size 47 (id.map B)) (fun i _=>l.length - (intOf i).toNat)
  case atStart=>exact⟨0,_,_,lK _,rfl,hT4.out,hb4.out,hI5.out⟩
  case round =>
    obtain⟨m,ps,V,hm,rfl,hst,hbr,hIr⟩:=hrel;by_cases hlt:m<l.length
    · have hOr:Xu wr ok (.slice OA l.length oc) l:=hO.out.stay (fun b hb hl=>hbr.block b (hok b hb)) (fun b hb _=>hb)
      obtain⟨b,o,rfl,_,hbl',hcells⟩:=hOr.op ho.out.fit.ok m hlt;have hok':=Z6g hTk.out ho.out m hm;have hxl:l[m]?=some l[m]:=lB hlt;have hsucc:=Zb9 (T:=T) (id:=id) hxl;obtain⟨k,nd,hkn,hff,hcase⟩:=hok'.find ho.out hxl;have hrf:=Ut (ho.out.right m hlt) hxl;have hf:=ho.out.fit.ok _ (lD hlt);obtain⟨x,hx⟩:∃ x,x=l[m]:=⟨_,rfl⟩;obtain⟨S,hS⟩:∃ S,S=Uu T id l m:=⟨_,rfl⟩;rw[<-hx] at hcells hrf hf hcase hff hxl hsucc;rw[<-hS] at hok' hkn hff hst hsucc;have hSl:S.nodes.length<=400001:=by
        have:=hok'.len;omega
      have hseen:0<=S.seen/\S.seen<=400001:=by
        have h1:=hok'.ok.seen;have h2:=Zl7 S.nodes;omega
      have hkl:k<S.nodes.length:=(lJ.1 hkn).1;have i1:(0:Int)<=(m:Int):=by omega
      have i2:(m:Int)<(l.length:Int):=by omega
      have hsr:=iD (Xe (r:=x.at_) hf.com);have hcom:=(hok'.ok.com hkn).1;replace hcells:=iD hcells;replace hx:=iD hx;replace hS:=iD hS;replace hst:=iD hst;replace hIr:=iD hIr;replace hbr:=iD hbr;replace hrf:=iD hrf;replace hf:=iD hf;replace hok':=iD hok';replace hcase:=iD hcase;replace hsucc:=iD hsucc;replace hkn:=iD hkn;replace hff:=iD hff;replace hxl:=iD hxl;clear hOr hO hT4 hI5 hb4 hT3 hI3;go_wp2_with (first
        | (refine l2 rfl 178 (.tmp 37) rfl b (o+m*37) rfl (Z9 x) _ (fun j v hv=>hcells.out j v hv) underlying178 rfl (Qh hf.out) ?_)
        | (refine Zo rfl 178 (.tmp 9) (.tmp 38) rfl wr.heap.size (Z9 x) rfl rfl 178 Jt (Blk.new_at rfl) (by rw[Ug hf.out];rfl) (Qh hf.out) (Uj _) ?_
           generalize hw1:lX _ wr.heap.size (Z9 x).toArray=w9;have hB9:Blk w9 wr.heap.size 178 (Z9 x):=by
             rw[<-hw1];exact (Blk.new_at (w:=wr) (t:=178) (cs:=Jt) rfl).setRow_same (Z9 x)
           have hb9:Below wr.heap.size wr w9:=by
             rw[<-hw1];exact below_setRow ((lL wr.heap.size wr).alloc (lC _) (.cells Jt.toArray 178)) (lC _) (Z9 x).toArray
           clear hw1;have hI9:=iD (hIr.out.below hb9 hIr.out.lt);replace hB9:=iD hB9;replace hb9:=iD hb9;go_frame)
        | (refine Y0 rfl 47 (.tmp 4) rfl w.heap.size rfl 47 (id.map B) hI9.out _ underlying47 rfl (Za hid) ?_)
        | (refine K3 rfl 158 (.tmp 41) rfl wr.heap.size 2 rfl 178 (Z9 x) (Z1 x.at_) [B x.byte] hB9.out rfl _ underlying158 rfl hsr.out ?_)
        | fail)
      have hst9:=hst.out.calm hb9.out;have hfind:Calls lA 157 #[.pointer (some ⟨tb,0,none⟩),.agg (id.map B).toArray,.agg (Z1 x.at_).toArray] w9 fun e w'=>e=.returned (.pointer (some ⟨ps k,0,none⟩))/\Below w9.heap.size w9 w':=by
        show Calls lA 157 #[.pointer (some ⟨tb,0,none⟩),.agg (id.map B).toArray,Zl x.at_] w9 _;rcases hcase.out with ⟨e1,e2⟩ | ⟨hk0,hkm,hkr⟩
        · rw[e1,e2]
          exact Zj4 tb (ps 0) mb ab _ id w9 hst9.tree
        · cases hw:x.at_.own with
          | true =>
            obtain⟨j,y,f1,f2,f3,f4⟩:=Z3o hrf.out.2.2 hrf.out.1 hw;have hrc:=hrf.out.1;unfold Ji at hrc;rw[if_pos hw,Bool.and_eq_true,beq_iff_eq] at hrc;have e:x.at_=Js (j+1):=by
              show (⟨x.at_.own,x.at_.com,x.at_.n⟩:PRef)=_;rw[hw,hrc.1,f1];rfl
            have hkm':nd.name=⟨false,id,((j+1:Nat):Int)⟩:=by
              rw[hkm];unfold Qa;rw[if_pos hw,f1];rfl
            rw[e];refine Zj5 tb (ps 0) mb ab _ _ id hid j (ps k) w9 hst9.tree hst9.by_.v (Z1w hok'.out.ok) ?_ ?_ (by omega)
            · rw[<-hkm']
              exact Z6n hkn.out hk0
            · rw[<-hkm']
              exact Z6o hok'.out.ok hkn.out
          | false =>
            have hkm':nd.name=x.at_:=by
              rw[hkm];unfold Qa;rw[if_neg (by rw[hw];decide)]
            refine Zle tb (ps 0) mb ab _ _ id (ps k) x.at_ hf.out.com hw (Z6f hrf.out.1 hw hkr).1 w9 hst9.tree hst9.by_.v (Z1w hok'.out.ok) ?_ ?_
            · rw[<-hkm']
              exact Z6n hkn.out hk0
            · rw[<-hkm']
              exact Z6o hok'.out.ok hkn.out
      refine hfind.mono ?_;rintro e w10 ⟨rfl,hb10⟩;have hst10:=hst9.calm hb10;have hB10:=hB9.out.below hb10 hB9.out.lt;have hI10:=hI9.out.below hb10 hI9.out.lt;have hbr10:Below base w w10:=(hbr.out.trans ((hb9.out.mono (lE hbase hbr.out.size)))).trans (hb10.mono (lE hbase (lE hbr.out.size hb9.out.size)));obtain⟨p0,p1,_,_,p36⟩:=Jj hB10 hf.out;have hcB:=hst10.node k nd hkn.out;have hbase10:base<=w10.heap.size:=lE hbase hbr10.size;clear hfind hst9 hst hIr hcells hb10 hB9 hb9 hI9 hbr;replace hst10:=iD hst10;replace hB10:=iD hB10;replace hI10:=iD hI10;replace hbr10:=iD hbr10;replace hcB:=iD hcB;rcases Z0i hrf.out.2.1 with ⟨hk1,_⟩ | ⟨hk2,_⟩
      · rw[hk1] at p0
        cases hl:x.left with
        | false =>
          rw[hl] at p1;have hsu:=hsucc.out;rw[Z6e hff.out hkn.out hk1,hl] at hsu;have hRow:=hst10.out.row k nd false hkn.out;obtain⟨ks,hks⟩:∃ ks,ks=Zd nd false:=⟨_,rfl⟩;rw[<-hks] at hsu hRow;have hkn':ks.length<S.nodes.length:=by rw[hks];exact hok'.out.ok.slen k nd false hkn.out
          have hkm:∀ c ∈ ks,c<S.nodes.length:=fun c hc=>(hok'.out.ok.kids k nd false c hkn.out (by rw[<-hks];exact hc)).2;rw[<-lN (f:=ps)] at hRow;obtain⟨NL,ncp,hVf,_⟩:=Vi hRow;rw[lN] at hVf;replace hsu:=iD hsu;replace hRow:=iD hRow;replace hkm:=iD hkm;replace hks:=iD hks;go_wp2_with (first
            | (refine Y0 rfl 47 (.tmp 4) rfl w.heap.size rfl 47 (id.map B) hI10.out _ underlying47 rfl (Za hid) ?_)
            | (refine Ke rfl (.agg (Z1 ⟨false,id,(m:Int)+1⟩).toArray) (exec_build2 158 1 2 (.tmp 62) (.tmp 64) rfl (.agg (id.map B).toArray) (.int .i64 ((m:Int)+1)) _ rfl rfl (Z5w id _ hid _)) ?_)
            | (refine Ke rfl (.agg (Zf ⟨false,id,(m:Int)+1⟩ x.byte false Z2 Z2).toArray) (exec_build2 235 0 1 (.tmp 65) (.tmp 67) rfl (.agg (Z1 ⟨false,id,(m:Int)+1⟩).toArray) (B x.byte) _ rfl rfl (Zaf ⟨false,id,(m:Int)+1⟩ x.byte hid _)) ?_)
            | fail)
          obtain⟨nr,hnr⟩:∃ nr:PRef,nr=⟨false,id,(m:Int)+1⟩:=⟨_,rfl⟩;have hnrc:nr.com.length=32:=by rw[hnr];exact hid
          rw[<-hnr];generalize hW11:lH w10 (lR _ 235)=w11;have hN11:Blk w11 w10.heap.size 235 (Zf nr x.byte false Z2 Z2):=by rw[<-hW11];exact Blk.new_at (cs:=Zf nr x.byte false Z2 Z2) rfl
          have hb11:Below w10.heap.size w10 w11:=by rw[<-hW11];exact bL
          have hst11:=hst10.out.calm hb11;have t1:w11.cell? ⟨tb,1,none⟩=some (.map (some mb)):=hst11.tree.cell 1;have hN12:Hid (∀ w',(∃ n,w'=w11.drewN n)->Blk w' w10.heap.size 235 (Zf nr x.byte false Z2 Z2)):=iD (by rintro _ ⟨n,rfl⟩;exact hN11.drewN n);clear hW11 p0 p1 p36;replace hst11:=iD hst11;replace hnr:=iD hnr;replace hN11:=iD hN11;replace hb11:=iD hb11;refine Ye 9 (by kernel_rfl) (by kernel_rfl) ?_;simp only[lS,lT,lU,lV];repeat (first
            | go_big_quiet_step (fail)
            | (refine Yf 158 (.tmp 76) rfl rfl w10.heap.size 0 rfl 235 (Zf nr x.byte false Z2 Z2) (Z1 nr) [B x.byte,.bool false,Z2,Z2] hN12.out rfl _ underlying158 rfl (Xe hnrc) ?_;go_frame))
          refine lG ?_;rintro _ ⟨nq2,rfl⟩;have hfresh:∀ q ∈ byL ps S,q.1 ≠ Zl nr:=fun q hq he=>by
            obtain⟨i,hi,rfl⟩:=lY.1 hq;have hi:=lO.1 hi;have e1:S.nodes[i+1]?=some (S.nodes[i+1]'(by omega)):=lB (by omega);have e2:Ya S (i+1)=(S.nodes[i+1]'(by omega)).name:=by unfold Ya;rw[e1];rfl
            dsimp only at he;rw[e2] at he;have e3:=(Z2u (hok'.out.ok.com e1).1 hnrc).1 he;have e4:=hok'.out.mine (i+1) _ e1 (by omega) (by rw[e3,hnr.out]);rw[e3,hnr.out] at e4;dsimp only at e4;omega
          have hst11q:=hst11.out.drewN nq2;obtain⟨w12,hrun,hM12,ht12⟩:=hst11q.by_.store Z04 underlying243 (Z1w hok'.out.ok) (⟨nr,hnrc,rfl⟩:Uh (Zl nr)) hfresh (.pointer (some ⟨w10.heap.size,0,none⟩));have ht12':Touch [mb] (w11.drewN nq2) w12:=V9 ht12;refine Ol rfl (Ok 243 (.tmp 73) (.tmp 77) (.tmp 78) rfl _ _ _ rfl rfl rfl hrun) ?_;obtain⟨LT,hLT⟩:∃ LT,LT=tb :: mb :: ps k :: (V k false).ownBlock.toList:=⟨_,rfl⟩;have hmem:∀ i,i ∈ LT ↔ i=tb ∨ i=mb ∨ i=ps k ∨ (V k false).ownBlock=some i:=fun i=>by rw[hLT];simp[lZ]
          have hoff:∀ {g:Nat} {t:TypeId} {cs:List Value},Blk w10 g t cs->t ≠ 245->t ≠ 235->t ≠ 233->g ∉ LT:=fun {g t cs} hB h1 h2 h3 hm=>by
            rcases (hmem g).1 hm with e | e | e | e
            · exact hB.ne_ hst10.out.tree h1 e
            · exact hst10.out.by_.ne_blk hB e
            · exact hB.ne_ hcB.out h2 e
            · obtain⟨cs',hB'⟩:=Xq hRow.out e
              exact hB.ne_ hB' h3 rfl
          have hLTlt:∀ i ∈ LT,i<w10.heap.size:=fun i hi=>by
            rcases (hmem i).1 hi with e | e | e | e
            · rw[e];exact hst10.out.tree.lt
            · rw[e];exact hst10.out.by_.lt
            · rw[e];exact hcB.out.lt
            · obtain⟨cs',hB'⟩:=Xq hRow.out e
              exact hB'.lt
          have t1012:Touch LT w10 w12:=((Touch.ofBelow (L:=LT) hb11.out).trans (Touch.drewN (L:=LT) nq2) (fun i hi=>.inl hi)).trans ht12' (fun i hi=>.inl (by
            obtain rfl:i=mb:=by simpa using hi
            exact (hmem _).2 (.inr (.inl rfl))))
          have t1112:Touch [mb] w11 w12:=(Touch.drewN (L:=[mb]) nq2).trans ht12' (fun i hi=>.inl hi);have hmbk:ps k ≠ mb:=hst10.out.by_.ne_blk hcB.out;have hmbt:tb ≠ mb:=hst10.out.by_.ne_blk hst10.out.tree;have hTt:tb ≠ ps k:=hst10.out.tree.ne_ hcB.out (by decide);have hT12:Blk w12 tb 245 (Jl (ps 0) mb ab S.seen):=(hst11.out.tree).touch t1112 (by simpa using hmbt);have hB12:Blk w12 wr.heap.size 178 (Z9 x):=hB10.out.touch t1012 (hoff hB10.out (by decide) (by decide) (by decide));have hI12:Blk w12 w.heap.size 47 (id.map B):=hI10.out.touch t1012 (hoff hI10.out (by decide) (by decide) (by decide));have hc12:Blk w12 (ps k) 235 (Zf nd.name nd.b nd.gone (V k true) (V k false)):=(hst11.out.node k nd hkn.out).touch t1112 (by simpa using hmbk);have hN12':Blk w12 w10.heap.size 235 (Zf nr x.byte false Z2 Z2):=hN11.out.touch t1112 (by
            have:=hst10.out.by_.lt;simp;omega)
          have n1:wr.heap.size ≠ tb:=hB12.ne_ hT12 (by decide);have t3:w12.cell? ⟨tb,3,none⟩=some (.int .i64 S.seen):=hT12.cell 3;have f3:=hT12.frozen 3;have hse:IntKind.i64.wrap (S.seen+1)=S.seen+1:=l0 _ (by omega);have x1:∀ u,(w12.setCell ⟨tb,3,none⟩ u).cell? ⟨wr.heap.size,1,none⟩=some (.bool false):=fun u=>by
            rw[(hB12.far (p:=⟨tb,3,none⟩) n1 u).cell,<-hl];rfl
          have xk:∀ u,(w12.setCell ⟨tb,3,none⟩ u).cell? ⟨ps k,37,none⟩=some (.slice NL ks.length ncp):=fun u=>by
            rw[(hc12.far (p:=⟨tb,3,none⟩) (fun e=>hTt e.symm) u).cell,Qn hcom,hVf]
          replace hT12:=iD hT12;replace hB12:=iD hB12;replace hI12:=iD hI12;replace hc12:=iD hc12;replace hN12':=iD hN12';replace hM12:=iD hM12;replace ht12':=iD ht12';replace t1012:=iD t1012;replace t1112:=iD t1112;replace hmem:=iD hmem;replace hLTlt:=iD hLTlt;replace hfresh:=iD hfresh;have hLT':=iD hLT;have hI17:=iD (hoff hI10.out (by decide) (by decide) (by decide));clear hrun ht12 hN12 t1 hst11q hoff hLT;go_wp2_with fail;obtain⟨w13,hw13⟩:∃ w13,w13=w12.setCell ⟨tb,3,none⟩ (.int .i64 (S.seen+1)):=⟨_,rfl⟩;rw[<-hw13];have hT13:Blk w13 tb 245 (Jl (ps 0) mb ab (S.seen+1)):=by rw[hw13];exact hT12.out.set_ 3 _
          have t1213:Touch [tb] w12 w13:=by rw[hw13];exact Touch.setCell (L:=[tb]) _ (by simp)
          have t1013:Touch LT w10 w13:=t1012.out.trans t1213 (fun i hi=>.inl (by
            obtain rfl:i=tb:=by simpa using hi
            exact (hmem.out _).2 (.inl rfl)))
          have hN13:Blk w13 w10.heap.size 235 (Zf nr x.byte false Z2 Z2):=hN12'.out.touch t1213 (by
            have:=hst10.out.tree.lt;simp;omega)
          have hmt:Touch [mb,tb] w10 w13:=(((Touch.ofBelow (L:=[mb,tb]) hb11.out).trans t1112.out (fun i hi=>.inl (by simp at hi;simp[hi])))).trans t1213 (fun i hi=>.inl (by simp at hi;simp[hi]));have hkeep:∀ {g:Nat} {t:TypeId} {cs:List Value},Blk w10 g t cs->t ≠ 245->Blk w13 g t cs:=fun {g t cs} hB h1=>hB.touch hmt (by
            have e1:=hst10.out.by_.ne_blk hB;have e2:=hB.ne_ hst10.out.tree h1;simp[e1,e2])
          have hRow13:w13.ownsRow base 233 1 (.slice NL ks.length ncp) (ks.map ps).length (Y5 (ks.map ps)):=by
            rw[<-hVf];refine Zk hRow.out hmt (fun g hg hm=>?_);obtain⟨cs',hB'⟩:=Xq hRow.out hg;have e1:=hst10.out.by_.ne_blk hB';have e2:=hB'.ne_ hst10.out.tree (by decide);simp[e1,e2] at hm
          have hbs:=Zbs base _ (ks.map ps) (ks.map fun c=>Ya S c) w10.heap.size nr (by simp) (by simp;omega) w13 hRow13 (fun i h1 h2 W hbW=>by
            have hi:i<ks.length:=by simpa using h1
            have hci:=hkm.out _ (lD hi);have hcn:S.nodes[ks[i]]?=some (S.nodes[ks[i]]'hci):=lB hci;have hBc:=(hkeep (hst10.out.node _ _ hcn) (by decide)).below hbW (hkeep (hst10.out.node _ _ hcn) (by decide)).lt;have hcc:=hok'.out.ok.com hcn;have e:Ya S ks[i]=(S.nodes[ks[i]]'hci).name:=by unfold Ya;rw[hcn];rfl
            rw[l5,l5,e];exact Zbh (ps ks[i]) w10.heap.size _ nr hcc.1 hnrc ⟨hcc.2.2.1,by omega⟩ ⟨by rw[hnr.out];dsimp only;omega,by rw[hnr.out];dsimp only;omega⟩ _ _ _ _ _ _ _ _ W hBc (hN13.below hbW hN13.lt))
          rw[lN] at hbs;obtain⟨pl,hpl⟩:∃ pl,pl=bsL (ks.map fun c=>Ya S c) nr (ks.length+1) 0 ks.length:=⟨_,rfl⟩;have hple:pl<=ks.length:=by rw[hpl];exact Z3t _ _ _ _ _ (lK _)
          rw[<-hpl] at hbs;replace hbs:=iD hbs;replace hRow13:=iD hRow13;replace hpl:=iD hpl;replace hmt:=iD hmt;have hc13:Hid (Blk w13 (ps k) 235 (Zf nd.name nd.b nd.gone (V k true) (V k false))):=iD (hkeep hcB.out (by decide));have hB13:Hid (Blk w13 wr.heap.size 178 (Z9 x)):=iD (hkeep hB10.out (by decide));replace hT13:=iD hT13;replace hN13:=iD hN13;replace t1213:=iD t1213;replace t1013:=iD t1013;clear hkeep x1 xk t3 f3;replace hw13:=iD hw13;refine hbs.out.mono ?_;rintro e w14 ⟨qb,rfl,hb14⟩;have hc14:=hc13.out.below hb14 hc13.out.lt;have xk:w14.cell? ⟨ps k,37,none⟩=some (.slice NL ks.length ncp):=by rw[hc14.cell,Qn hcom,hVf]
          replace hb14:=iD hb14;clear hbs hc14;go_wp2_with fail;generalize hW15:lH w14 (lR _ 233)=w15;have hb15:Below w14.heap.size w14 w15:=by rw[<-hW15];exact bL
          have hX15:Blk w15 w14.heap.size 233 [.pointer (some ⟨w10.heap.size,0,none⟩)]:=by rw[<-hW15];exact Blk.new_at (cs:=[.pointer (some ⟨w10.heap.size,0,none⟩)]) rfl
          have hb1315:Below w13.heap.size w13 w15:=hb14.out.trans (hb15.mono hb14.out.size);have hRow15:w15.ownsRow base 233 1 (.slice NL ks.length ncp) ks.length (Y5 (ks.map ps)):=by
            have:=Zk hRow13.out (Touch.ofBelow (L:=[]) hb1315) (fun _ _ hm=>by cases hm)
            rwa [lN] at this
          have hs1013:=t1013.out.size;have hs1315:=hb1315.size;have hrowlt:∀ g,(V k false).ownBlock=some g->g<w10.heap.size/\base<=g:=fun g hg=>by
            obtain⟨cs',hB'⟩:=Xq hRow.out hg;exact⟨hB'.lt,(hRow.out.lt g hg).1⟩
          have hins:=Zbk base _ ks.length pl (Y5 (ks.map ps)) w14.heap.size (.pointer (some ⟨w10.heap.size,0,none⟩)) w15 hRow15 (by omega) hple (by simp[Y5,lW]) hX15 (by simp[lW]) (by omega) (fun e=>by
            rw[<-hVf] at e;have h1:=(hrowlt _ e).1;have h2:=hb14.out.size;omega)
          replace hins:=iD hins;replace hX15:=iD hX15;replace hRow15:=iD hRow15;replace hb15:=iD hb15;replace hb1315:=iD hb1315;clear xk hW15;refine hins.out.mono ?_;rintro e w16 ⟨v',rfl,hro16,hg16,hv16⟩;rw[<-hVf] at hg16 hv16;have hgt:∀ {g:Nat} {t:TypeId} {cs:List Value},Blk w15 g t cs->t ≠ 233->Blk w16 g t cs:=fun {g t cs} hB h1=>hB.grown hg16 (fun e=>by
            obtain⟨cs',hB'⟩:=Xq hRow15.out (by rw[<-hVf];exact e.symm);exact hB.ne_ hB' h1 rfl)
          have hc16:=hgt (hc13.out.below hb1315.out hc13.out.lt) (by decide);have hfk:=hc16.frozen 37;have ckk:w16.cell? ⟨ps k,37,none⟩=some (.slice NL ks.length ncp):=by rw[hc16.cell,Qn hcom,hVf]
          have hT16:=hgt (hT13.out.below hb1315.out hT13.out.lt) (by decide);have hN16:=hgt (hN13.out.below hb1315.out hN13.out.lt) (by decide);replace hc16:=iD hc16;replace hT16:=iD hT16;replace hN16:=iD hN16;replace hro16:=iD hro16;replace hg16:=iD hg16;replace hv16:=iD hv16;clear hgt;obtain⟨VA,vcp,rfl,_,_⟩:=Z6 hro16.out;go_wp2_with fail;obtain⟨w17,hw17⟩:∃ w17,w17=w16.setCell ⟨ps k,37,none⟩ (.slice VA (ks.length+1) vcp):=⟨_,rfl⟩;rw[<-hw17];have t1617:Touch [ps k] w16 w17:=by rw[hw17];exact Touch.setCell (L:=[ps k]) _ (by simp)
          have hP17:Blk w17 (ps k) 235 (Zf nd.name nd.b nd.gone (if false then .slice VA (ks.length+1) vcp else V k true) (if false then V k false else .slice VA (ks.length+1) vcp)):=by
            rw[hw17];have h1:=hc16.out.set_ 37 (.slice VA (ks.length+1) vcp);rw[Zbw hcom] at h1;exact h1
          have t1017:Touch LT w10 w17:=((t1013.out.trans (Touch.ofBelow (L:=LT) hb1315.out) (fun i hi=>.inl hi)).trans (Touch.grown (L:=LT) hg16.out (fun g hg=>(hmem.out g).2 (.inr (.inr (.inr hg))))) (fun i hi=>.inl hi)).trans t1617 (fun i hi=>.inl (by
            obtain rfl:i=ps k:=by simpa using hi
            exact (hmem.out _).2 (.inr (.inr (.inl rfl)))))
          have hM13:Yn w13 mb (byL ps S++[(Zl nr,ndP w10.heap.size)]):=hM12.out.touch t1213.out (by simpa using fun e=>hmbt e.symm);have hM15:=hM13.block (hb1315.out.block _ hM13.lt);have hM16:Yn w16 mb (byL ps S++[(Zl nr,ndP w10.heap.size)]):=hM15.touch (Touch.grown (L:=(V k false).ownBlock.toList) hg16.out (fun g hg=>lZ.2 hg)) (fun hm=>by
            obtain⟨cs',hB'⟩:=Xq hRow15.out (by rw[<-hVf];exact lZ.1 hm);exact hM15.ne_blk hB' rfl)
          have hM17:Yn w17 mb (byL ps S++[(Zl nr,ndP w10.heap.size)]):=hM16.touch t1617 (by simpa using fun e=>hmbk e.symm);have hT17:Blk w17 tb 245 (Jl (ps 0) mb ab (S.seen+1)):=hT16.out.touch t1617 (by simpa using hTt);have hN17:Blk w17 w10.heap.size 235 (Zf nr x.byte false Z2 Z2):=hN16.out.touch t1617 (by
            have:=hcB.out.lt;simp;omega)
          have hlist:Y5 ((Xb ks pl S.nodes.length).map fun j=>if j=S.nodes.length then w10.heap.size else ps j)=(Y5 (ks.map ps)).take pl++[.pointer (some ⟨w10.heap.size,0,none⟩)]++(Y5 (ks.map ps)).drop pl:=by
            unfold Xb Y5;simp only[nD,nE,nM,nN,nO,if_true];have e:ks.map ((fun n=>l6 (some ⟨n,0,none⟩)) ∘ fun j=>if j=S.nodes.length then w10.heap.size else ps j)=ks.map ((fun n=>l6 (some ⟨n,0,none⟩)) ∘ ps):=nP (fun c hc=>by
              have:=hkm.out c hc;simp only[Function.comp];rw[if_neg (by omega)])
            rw[e];simp
          have hr17:w17.ownsRow base 233 1 (.slice VA (ks.length+1) vcp) (Xb ks pl S.nodes.length).length (Y5 ((Xb ks pl S.nodes.length).map fun j=>if j=S.nodes.length then w10.heap.size else ps j)):=by
            rw[hlist,Z6d];refine Zk hro16.out t1617 (fun g hg hm=>?_);obtain⟨cs',hB'⟩:=Xq hro16.out hg;obtain rfl:g=ps k:=by simpa using hm
            exact hB'.ne_ hc16.out (by decide) rfl
          have hTf:=hst10.out.ins hok'.out.ok hkn.out false (Xb ks pl S.nodes.length) (fun c hc=>by
            rcases Z3m hc with h1 | h1
            · have:=hkm.out c h1
              omega
            · omega) nr x.byte w10.heap.size (.slice VA (ks.length+1) vcp) (by
            have:=t1017
            rwa [hLT'.out] at this) hbase10 hT17 hM17 hP17 hN17 (lC _) hr17 (by
            rcases hv16.out with e | e
            · exact .inl e
            · exact .inr (fun g hg=>lE (lE hs1013 hs1315) (e g hg)))
          have hb17:Below base w10 w17:=t1017.below hbase10 (fun i hi=>by
            rcases (hmem.out i).1 hi with e | e | e | e
            · rw[e];exact hst10.out.lo.1
            · rw[e];exact hst10.out.lo.2.1
            · rw[e];exact hst10.out.low k hkl
            · exact (hrowlt i e).2)
          refine⟨⟨m+1,(fun j=>if j=S.nodes.length then w10.heap.size else ps j),Vh V k false (.slice VA (ks.length+1) vcp) S.nodes.length,by omega,by go_num,?_,hbr10.out.trans hb17,?_⟩,by simp[intOf];omega⟩
          · have e1:Oq S ks ⟨false,id,((m+1:Nat):Int)⟩=pl:=by
              rw[hpl.out,hnr.out];rfl
            have e2:(⟨false,id,((m+1:Nat):Int)⟩:PRef)=nr:=by rw[hnr.out];rfl
            rw[hsu.out,e1,e2];exact hTf
          · exact hI10.out.touch t1017 hI17.out
        | true =>
          rw[hl] at p1;have hsu:=hsucc.out;rw[Z6e hff.out hkn.out hk1,hl] at hsu;have hRow:=hst10.out.row k nd true hkn.out;obtain⟨ks,hks⟩:∃ ks,ks=Zd nd true:=⟨_,rfl⟩;rw[<-hks] at hsu hRow;have hkn':ks.length<S.nodes.length:=by rw[hks];exact hok'.out.ok.slen k nd true hkn.out
          have hkm:∀ c ∈ ks,c<S.nodes.length:=fun c hc=>(hok'.out.ok.kids k nd true c hkn.out (by rw[<-hks];exact hc)).2;rw[<-lN (f:=ps)] at hRow;obtain⟨NL,ncp,hVf,_⟩:=Vi hRow;rw[lN] at hVf;replace hsu:=iD hsu;replace hRow:=iD hRow;replace hkm:=iD hkm;replace hks:=iD hks;go_wp2_with (first
            | (refine Y0 rfl 47 (.tmp 4) rfl w.heap.size rfl 47 (id.map B) hI10.out _ underlying47 rfl (Za hid) ?_)
            | (refine Ke rfl (.agg (Z1 ⟨false,id,(m:Int)+1⟩).toArray) (exec_build2 158 1 2 (.tmp 62) (.tmp 64) rfl (.agg (id.map B).toArray) (.int .i64 ((m:Int)+1)) _ rfl rfl (Z5w id _ hid _)) ?_)
            | (refine Ke rfl (.agg (Zf ⟨false,id,(m:Int)+1⟩ x.byte false Z2 Z2).toArray) (exec_build2 235 0 1 (.tmp 65) (.tmp 67) rfl (.agg (Z1 ⟨false,id,(m:Int)+1⟩).toArray) (B x.byte) _ rfl rfl (Zaf ⟨false,id,(m:Int)+1⟩ x.byte hid _)) ?_)
            | fail)
          obtain⟨nr,hnr⟩:∃ nr:PRef,nr=⟨false,id,(m:Int)+1⟩:=⟨_,rfl⟩;have hnrc:nr.com.length=32:=by rw[hnr];exact hid
          rw[<-hnr];generalize hW11:lH w10 (lR _ 235)=w11;have hN11:Blk w11 w10.heap.size 235 (Zf nr x.byte false Z2 Z2):=by rw[<-hW11];exact Blk.new_at (cs:=Zf nr x.byte false Z2 Z2) rfl
          have hb11:Below w10.heap.size w10 w11:=by rw[<-hW11];exact bL
          have hst11:=hst10.out.calm hb11;have t1:w11.cell? ⟨tb,1,none⟩=some (.map (some mb)):=hst11.tree.cell 1;have hN12:Hid (∀ w',(∃ n,w'=w11.drewN n)->Blk w' w10.heap.size 235 (Zf nr x.byte false Z2 Z2)):=iD (by rintro _ ⟨n,rfl⟩;exact hN11.drewN n);clear hW11 p0 p1 p36;replace hst11:=iD hst11;replace hnr:=iD hnr;replace hN11:=iD hN11;replace hb11:=iD hb11;refine Ye 9 (by kernel_rfl) (by kernel_rfl) ?_;simp only[lS,lT,lU,lV];repeat (first
            | go_big_quiet_step (fail)
            | (refine Yf 158 (.tmp 76) rfl rfl w10.heap.size 0 rfl 235 (Zf nr x.byte false Z2 Z2) (Z1 nr) [B x.byte,.bool false,Z2,Z2] hN12.out rfl _ underlying158 rfl (Xe hnrc) ?_;go_frame))
          refine lG ?_;rintro _ ⟨nq2,rfl⟩;have hfresh:∀ q ∈ byL ps S,q.1 ≠ Zl nr:=fun q hq he=>by
            obtain⟨i,hi,rfl⟩:=lY.1 hq;have hi:=lO.1 hi;have e1:S.nodes[i+1]?=some (S.nodes[i+1]'(by omega)):=lB (by omega);have e2:Ya S (i+1)=(S.nodes[i+1]'(by omega)).name:=by unfold Ya;rw[e1];rfl
            dsimp only at he;rw[e2] at he;have e3:=(Z2u (hok'.out.ok.com e1).1 hnrc).1 he;have e4:=hok'.out.mine (i+1) _ e1 (by omega) (by rw[e3,hnr.out]);rw[e3,hnr.out] at e4;dsimp only at e4;omega
          have hst11q:=hst11.out.drewN nq2;obtain⟨w12,hrun,hM12,ht12⟩:=hst11q.by_.store Z04 underlying243 (Z1w hok'.out.ok) (⟨nr,hnrc,rfl⟩:Uh (Zl nr)) hfresh (.pointer (some ⟨w10.heap.size,0,none⟩));have ht12':Touch [mb] (w11.drewN nq2) w12:=V9 ht12;refine Ol rfl (Ok 243 (.tmp 73) (.tmp 77) (.tmp 78) rfl _ _ _ rfl rfl rfl hrun) ?_;obtain⟨LT,hLT⟩:∃ LT,LT=tb :: mb :: ps k :: (V k true).ownBlock.toList:=⟨_,rfl⟩;have hmem:∀ i,i ∈ LT ↔ i=tb ∨ i=mb ∨ i=ps k ∨ (V k true).ownBlock=some i:=fun i=>by rw[hLT];simp[lZ]
          have hoff:∀ {g:Nat} {t:TypeId} {cs:List Value},Blk w10 g t cs->t ≠ 245->t ≠ 235->t ≠ 233->g ∉ LT:=fun {g t cs} hB h1 h2 h3 hm=>by
            rcases (hmem g).1 hm with e | e | e | e
            · exact hB.ne_ hst10.out.tree h1 e
            · exact hst10.out.by_.ne_blk hB e
            · exact hB.ne_ hcB.out h2 e
            · obtain⟨cs',hB'⟩:=Xq hRow.out e
              exact hB.ne_ hB' h3 rfl
          have hLTlt:∀ i ∈ LT,i<w10.heap.size:=fun i hi=>by
            rcases (hmem i).1 hi with e | e | e | e
            · rw[e];exact hst10.out.tree.lt
            · rw[e];exact hst10.out.by_.lt
            · rw[e];exact hcB.out.lt
            · obtain⟨cs',hB'⟩:=Xq hRow.out e
              exact hB'.lt
          have t1012:Touch LT w10 w12:=((Touch.ofBelow (L:=LT) hb11.out).trans (Touch.drewN (L:=LT) nq2) (fun i hi=>.inl hi)).trans ht12' (fun i hi=>.inl (by
            obtain rfl:i=mb:=by simpa using hi
            exact (hmem _).2 (.inr (.inl rfl))))
          have t1112:Touch [mb] w11 w12:=(Touch.drewN (L:=[mb]) nq2).trans ht12' (fun i hi=>.inl hi);have hmbk:ps k ≠ mb:=hst10.out.by_.ne_blk hcB.out;have hmbt:tb ≠ mb:=hst10.out.by_.ne_blk hst10.out.tree;have hTt:tb ≠ ps k:=hst10.out.tree.ne_ hcB.out (by decide);have hT12:Blk w12 tb 245 (Jl (ps 0) mb ab S.seen):=(hst11.out.tree).touch t1112 (by simpa using hmbt);have hB12:Blk w12 wr.heap.size 178 (Z9 x):=hB10.out.touch t1012 (hoff hB10.out (by decide) (by decide) (by decide));have hI12:Blk w12 w.heap.size 47 (id.map B):=hI10.out.touch t1012 (hoff hI10.out (by decide) (by decide) (by decide));have hc12:Blk w12 (ps k) 235 (Zf nd.name nd.b nd.gone (V k true) (V k false)):=(hst11.out.node k nd hkn.out).touch t1112 (by simpa using hmbk);have hN12':Blk w12 w10.heap.size 235 (Zf nr x.byte false Z2 Z2):=hN11.out.touch t1112 (by
            have:=hst10.out.by_.lt;simp;omega)
          have n1:wr.heap.size ≠ tb:=hB12.ne_ hT12 (by decide);have t3:w12.cell? ⟨tb,3,none⟩=some (.int .i64 S.seen):=hT12.cell 3;have f3:=hT12.frozen 3;have hse:IntKind.i64.wrap (S.seen+1)=S.seen+1:=l0 _ (by omega);have x1:∀ u,(w12.setCell ⟨tb,3,none⟩ u).cell? ⟨wr.heap.size,1,none⟩=some (.bool true):=fun u=>by
            rw[(hB12.far (p:=⟨tb,3,none⟩) n1 u).cell,<-hl];rfl
          have xk:∀ u,(w12.setCell ⟨tb,3,none⟩ u).cell? ⟨ps k,36,none⟩=some (.slice NL ks.length ncp):=fun u=>by
            rw[(hc12.far (p:=⟨tb,3,none⟩) (fun e=>hTt e.symm) u).cell,Qm hcom,hVf]
          replace hT12:=iD hT12;replace hB12:=iD hB12;replace hI12:=iD hI12;replace hc12:=iD hc12;replace hN12':=iD hN12';replace hM12:=iD hM12;replace ht12':=iD ht12';replace t1012:=iD t1012;replace t1112:=iD t1112;replace hmem:=iD hmem;replace hLTlt:=iD hLTlt;replace hfresh:=iD hfresh;have hLT':=iD hLT;have hI17:=iD (hoff hI10.out (by decide) (by decide) (by decide));clear hrun ht12 hN12 t1 hst11q hoff hLT;go_wp2_with fail;obtain⟨w13,hw13⟩:∃ w13,w13=w12.setCell ⟨tb,3,none⟩ (.int .i64 (S.seen+1)):=⟨_,rfl⟩;rw[<-hw13];have hT13:Blk w13 tb 245 (Jl (ps 0) mb ab (S.seen+1)):=by rw[hw13];exact hT12.out.set_ 3 _
          have t1213:Touch [tb] w12 w13:=by rw[hw13];exact Touch.setCell (L:=[tb]) _ (by simp)
          have t1013:Touch LT w10 w13:=t1012.out.trans t1213 (fun i hi=>.inl (by
            obtain rfl:i=tb:=by simpa using hi
            exact (hmem.out _).2 (.inl rfl)))
          have hN13:Blk w13 w10.heap.size 235 (Zf nr x.byte false Z2 Z2):=hN12'.out.touch t1213 (by
            have:=hst10.out.tree.lt;simp;omega)
          have hmt:Touch [mb,tb] w10 w13:=(((Touch.ofBelow (L:=[mb,tb]) hb11.out).trans t1112.out (fun i hi=>.inl (by simp at hi;simp[hi])))).trans t1213 (fun i hi=>.inl (by simp at hi;simp[hi]));have hkeep:∀ {g:Nat} {t:TypeId} {cs:List Value},Blk w10 g t cs->t ≠ 245->Blk w13 g t cs:=fun {g t cs} hB h1=>hB.touch hmt (by
            have e1:=hst10.out.by_.ne_blk hB;have e2:=hB.ne_ hst10.out.tree h1;simp[e1,e2])
          have hRow13:w13.ownsRow base 233 1 (.slice NL ks.length ncp) (ks.map ps).length (Y5 (ks.map ps)):=by
            rw[<-hVf];refine Zk hRow.out hmt (fun g hg hm=>?_);obtain⟨cs',hB'⟩:=Xq hRow.out hg;have e1:=hst10.out.by_.ne_blk hB';have e2:=hB'.ne_ hst10.out.tree (by decide);simp[e1,e2] at hm
          have hbs:=Zbs base _ (ks.map ps) (ks.map fun c=>Ya S c) w10.heap.size nr (by simp) (by simp;omega) w13 hRow13 (fun i h1 h2 W hbW=>by
            have hi:i<ks.length:=by simpa using h1
            have hci:=hkm.out _ (lD hi);have hcn:S.nodes[ks[i]]?=some (S.nodes[ks[i]]'hci):=lB hci;have hBc:=(hkeep (hst10.out.node _ _ hcn) (by decide)).below hbW (hkeep (hst10.out.node _ _ hcn) (by decide)).lt;have hcc:=hok'.out.ok.com hcn;have e:Ya S ks[i]=(S.nodes[ks[i]]'hci).name:=by unfold Ya;rw[hcn];rfl
            rw[l5,l5,e];exact Zbh (ps ks[i]) w10.heap.size _ nr hcc.1 hnrc ⟨hcc.2.2.1,by omega⟩ ⟨by rw[hnr.out];dsimp only;omega,by rw[hnr.out];dsimp only;omega⟩ _ _ _ _ _ _ _ _ W hBc (hN13.below hbW hN13.lt))
          rw[lN] at hbs;obtain⟨pl,hpl⟩:∃ pl,pl=bsL (ks.map fun c=>Ya S c) nr (ks.length+1) 0 ks.length:=⟨_,rfl⟩;have hple:pl<=ks.length:=by rw[hpl];exact Z3t _ _ _ _ _ (lK _)
          rw[<-hpl] at hbs;replace hbs:=iD hbs;replace hRow13:=iD hRow13;replace hpl:=iD hpl;replace hmt:=iD hmt;have hc13:Hid (Blk w13 (ps k) 235 (Zf nd.name nd.b nd.gone (V k true) (V k false))):=iD (hkeep hcB.out (by decide));have hB13:Hid (Blk w13 wr.heap.size 178 (Z9 x)):=iD (hkeep hB10.out (by decide));replace hT13:=iD hT13;replace hN13:=iD hN13;replace t1213:=iD t1213;replace t1013:=iD t1013;clear hkeep x1 xk t3 f3;replace hw13:=iD hw13;refine hbs.out.mono ?_;rintro e w14 ⟨qb,rfl,hb14⟩;have hc14:=hc13.out.below hb14 hc13.out.lt;have xk:w14.cell? ⟨ps k,36,none⟩=some (.slice NL ks.length ncp):=by rw[hc14.cell,Qm hcom,hVf]
          replace hb14:=iD hb14;clear hbs hc14;go_wp2_with fail;generalize hW15:lH w14 (lR _ 233)=w15;have hb15:Below w14.heap.size w14 w15:=by rw[<-hW15];exact bL
          have hX15:Blk w15 w14.heap.size 233 [.pointer (some ⟨w10.heap.size,0,none⟩)]:=by rw[<-hW15];exact Blk.new_at (cs:=[.pointer (some ⟨w10.heap.size,0,none⟩)]) rfl
          have hb1315:Below w13.heap.size w13 w15:=hb14.out.trans (hb15.mono hb14.out.size);have hRow15:w15.ownsRow base 233 1 (.slice NL ks.length ncp) ks.length (Y5 (ks.map ps)):=by
            have:=Zk hRow13.out (Touch.ofBelow (L:=[]) hb1315) (fun _ _ hm=>by cases hm)
            rwa [lN] at this
          have hs1013:=t1013.out.size;have hs1315:=hb1315.size;have hrowlt:∀ g,(V k true).ownBlock=some g->g<w10.heap.size/\base<=g:=fun g hg=>by
            obtain⟨cs',hB'⟩:=Xq hRow.out hg;exact⟨hB'.lt,(hRow.out.lt g hg).1⟩
          have hins:=Zbk base _ ks.length pl (Y5 (ks.map ps)) w14.heap.size (.pointer (some ⟨w10.heap.size,0,none⟩)) w15 hRow15 (by omega) hple (by simp[Y5,lW]) hX15 (by simp[lW]) (by omega) (fun e=>by
            rw[<-hVf] at e;have h1:=(hrowlt _ e).1;have h2:=hb14.out.size;omega)
          replace hins:=iD hins;replace hX15:=iD hX15;replace hRow15:=iD hRow15;replace hb15:=iD hb15;replace hb1315:=iD hb1315;clear xk hW15;refine hins.out.mono ?_;rintro e w16 ⟨v',rfl,hro16,hg16,hv16⟩;rw[<-hVf] at hg16 hv16;have hgt:∀ {g:Nat} {t:TypeId} {cs:List Value},Blk w15 g t cs->t ≠ 233->Blk w16 g t cs:=fun {g t cs} hB h1=>hB.grown hg16 (fun e=>by
            obtain⟨cs',hB'⟩:=Xq hRow15.out (by rw[<-hVf];exact e.symm);exact hB.ne_ hB' h1 rfl)
          have hc16:=hgt (hc13.out.below hb1315.out hc13.out.lt) (by decide);have hfk:=hc16.frozen 36;have ckk:w16.cell? ⟨ps k,36,none⟩=some (.slice NL ks.length ncp):=by rw[hc16.cell,Qm hcom,hVf]
          have hT16:=hgt (hT13.out.below hb1315.out hT13.out.lt) (by decide);have hN16:=hgt (hN13.out.below hb1315.out hN13.out.lt) (by decide);replace hc16:=iD hc16;replace hT16:=iD hT16;replace hN16:=iD hN16;replace hro16:=iD hro16;replace hg16:=iD hg16;replace hv16:=iD hv16;clear hgt;obtain⟨VA,vcp,rfl,_,_⟩:=Z6 hro16.out;go_wp2_with fail;obtain⟨w17,hw17⟩:∃ w17,w17=w16.setCell ⟨ps k,36,none⟩ (.slice VA (ks.length+1) vcp):=⟨_,rfl⟩;rw[<-hw17];have t1617:Touch [ps k] w16 w17:=by rw[hw17];exact Touch.setCell (L:=[ps k]) _ (by simp)
          have hP17:Blk w17 (ps k) 235 (Zf nd.name nd.b nd.gone (if true then .slice VA (ks.length+1) vcp else V k true) (if true then V k false else .slice VA (ks.length+1) vcp)):=by
            rw[hw17];have h1:=hc16.out.set_ 36 (.slice VA (ks.length+1) vcp);rw[Zbv hcom] at h1;exact h1
          have t1017:Touch LT w10 w17:=((t1013.out.trans (Touch.ofBelow (L:=LT) hb1315.out) (fun i hi=>.inl hi)).trans (Touch.grown (L:=LT) hg16.out (fun g hg=>(hmem.out g).2 (.inr (.inr (.inr hg))))) (fun i hi=>.inl hi)).trans t1617 (fun i hi=>.inl (by
            obtain rfl:i=ps k:=by simpa using hi
            exact (hmem.out _).2 (.inr (.inr (.inl rfl)))))
          have hM13:Yn w13 mb (byL ps S++[(Zl nr,ndP w10.heap.size)]):=hM12.out.touch t1213.out (by simpa using fun e=>hmbt e.symm);have hM15:=hM13.block (hb1315.out.block _ hM13.lt);have hM16:Yn w16 mb (byL ps S++[(Zl nr,ndP w10.heap.size)]):=hM15.touch (Touch.grown (L:=(V k true).ownBlock.toList) hg16.out (fun g hg=>lZ.2 hg)) (fun hm=>by
            obtain⟨cs',hB'⟩:=Xq hRow15.out (by rw[<-hVf];exact lZ.1 hm);exact hM15.ne_blk hB' rfl)
          have hM17:Yn w17 mb (byL ps S++[(Zl nr,ndP w10.heap.size)]):=hM16.touch t1617 (by simpa using fun e=>hmbk e.symm);have hT17:Blk w17 tb 245 (Jl (ps 0) mb ab (S.seen+1)):=hT16.out.touch t1617 (by simpa using hTt);have hN17:Blk w17 w10.heap.size 235 (Zf nr x.byte false Z2 Z2):=hN16.out.touch t1617 (by
            have:=hcB.out.lt;simp;omega)
          have hlist:Y5 ((Xb ks pl S.nodes.length).map fun j=>if j=S.nodes.length then w10.heap.size else ps j)=(Y5 (ks.map ps)).take pl++[.pointer (some ⟨w10.heap.size,0,none⟩)]++(Y5 (ks.map ps)).drop pl:=by
            unfold Xb Y5;simp only[nD,nE,nM,nN,nO,if_true];have e:ks.map ((fun n=>l6 (some ⟨n,0,none⟩)) ∘ fun j=>if j=S.nodes.length then w10.heap.size else ps j)=ks.map ((fun n=>l6 (some ⟨n,0,none⟩)) ∘ ps):=nP (fun c hc=>by
              have:=hkm.out c hc;simp only[Function.comp];rw[if_neg (by omega)])
            rw[e];simp
          have hr17:w17.ownsRow base 233 1 (.slice VA (ks.length+1) vcp) (Xb ks pl S.nodes.length).length (Y5 ((Xb ks pl S.nodes.length).map fun j=>if j=S.nodes.length then w10.heap.size else ps j)):=by
            rw[hlist,Z6d];refine Zk hro16.out t1617 (fun g hg hm=>?_);obtain⟨cs',hB'⟩:=Xq hro16.out hg;obtain rfl:g=ps k:=by simpa using hm
            exact hB'.ne_ hc16.out (by decide) rfl
          have hTf:=hst10.out.ins hok'.out.ok hkn.out true (Xb ks pl S.nodes.length) (fun c hc=>by
            rcases Z3m hc with h1 | h1
            · have:=hkm.out c h1
              omega
            · omega) nr x.byte w10.heap.size (.slice VA (ks.length+1) vcp) (by
            have:=t1017
            rwa [hLT'.out] at this) hbase10 hT17 hM17 hP17 hN17 (lC _) hr17 (by
            rcases hv16.out with e | e
            · exact .inl e
            · exact .inr (fun g hg=>lE (lE hs1013 hs1315) (e g hg)))
          have hb17:Below base w10 w17:=t1017.below hbase10 (fun i hi=>by
            rcases (hmem.out i).1 hi with e | e | e | e
            · rw[e];exact hst10.out.lo.1
            · rw[e];exact hst10.out.lo.2.1
            · rw[e];exact hst10.out.low k hkl
            · exact (hrowlt i e).2)
          refine⟨⟨m+1,(fun j=>if j=S.nodes.length then w10.heap.size else ps j),Vh V k true (.slice VA (ks.length+1) vcp) S.nodes.length,by omega,by go_num,?_,hbr10.out.trans hb17,?_⟩,by simp[intOf];omega⟩
          · have e1:Oq S ks ⟨false,id,((m+1:Nat):Int)⟩=pl:=by
              rw[hpl.out,hnr.out];rfl
            have e2:(⟨false,id,((m+1:Nat):Int)⟩:PRef)=nr:=by rw[hnr.out];rfl
            rw[hsu.out,e1,e2];exact hTf
          · exact hI10.out.touch t1017 hI17.out
      · rw[hk2] at p0
        have hsu:=hsucc.out;rw[Zb7 hff.out hkn.out hk2] at hsu;have n35:w10.cell? ⟨ps k,35,none⟩=some (.bool nd.gone):=by rw[hcB.out.cell,Zbt hcom]
        have hTt:tb ≠ ps k:=hst10.out.tree.ne_ hcB.out (by decide);have hTd:∀ w17,Touch [tb,ps k] w10 w17->Blk w17 tb 245 (Jl (ps 0) mb ab (Jy S k nd).seen)->Blk w17 (ps k) 235 (Zf nd.name nd.b true (V k true) (V k false)) ->
            ∃ (m':Nat) (ps:Nat->Nat) (V:Nat->Bool->Value),m'<=l.length/\Value.int .i64 ((m:Int)+1)=.int .i64 m'/\TreeM w17 base tb mb ab ps V (Uu T id l m')/\Below base w w17/\Blk w17 w.heap.size 47 (id.map B):=fun w17 t17 h1 h2=>by
          refine⟨m+1,ps,V,by omega,by go_num,?_,hbr10.out.trans (t17.below hbase10 (fun i hi=>?_)),hI10.out.touch t17 ?_⟩
          · rw[hsu]
            exact hst10.out.del hok'.out.ok hkn.out t17 h1 h2
          · have hi:i=tb ∨ i=ps k:=by simpa using hi
            rcases hi with e | e
            · rw[e];exact hst10.out.lo.1
            · rw[e];exact hst10.out.low k hkl
          · have e1:=hI10.out.ne_ hst10.out.tree (by decide)
            have e2:=hI10.out.ne_ hcB.out (by decide);simp[e1,e2]
        replace hTd:=iD hTd;cases hg:nd.gone with
        | true =>
          rw[hg] at n35;have hfk:=hcB.out.frozen 35;go_wp2_with fail;refine⟨hTd.out _ (Touch.setCell (L:=[tb,ps k]) _ (by simp)) ?_ ?_,by simp[intOf];omega⟩
          · have h1:=hst10.out.tree.far (p:=⟨ps k,35,none⟩) hTt (.bool true)
            unfold Jy;rw[hg];exact h1
          · have h1:=hcB.out.set_ 35 (.bool true)
            rw[Zbu hcom] at h1;exact h1
        | false =>
          rw[hg] at n35;have t3:w10.cell? ⟨tb,3,none⟩=some (.int .i64 S.seen):=hst10.out.tree.cell 3;have f3:=hst10.out.tree.frozen 3;have hse:IntKind.i64.wrap (S.seen - 1)=S.seen - 1:=l0 _ (by omega);have hfk:∀ u,(w10.setCell ⟨tb,3,none⟩ u).frozen? ⟨ps k,35,none⟩=false:=fun u=>(hcB.out.far (p:=⟨tb,3,none⟩) (fun e=>hTt e.symm) u).frozen 35;have hck:∀ u,(w10.setCell ⟨tb,3,none⟩ u).cell? ⟨ps k,35,none⟩=some (.bool false):=fun u=>by rw[(hcB.out.far (p:=⟨tb,3,none⟩) (fun e=>hTt e.symm) u).cell,Zbt hcom,hg]
          go_wp2_with fail;refine⟨hTd.out _ ((Touch.setCell (L:=[tb,ps k]) _ (by simp)).trans (Touch.setCell (L:=[tb,ps k]) _ (by simp)) (fun i hi=>.inl hi)) ?_ ?_,by simp[intOf];omega⟩
          · have h1:=(hst10.out.tree.set_ 3 (.int .i64 (S.seen - 1))).far (p:=⟨ps k,35,none⟩) hTt (.bool true)
            unfold Jy;rw[hg];exact h1
          · have h1:=(hcB.out.far (p:=⟨tb,3,none⟩) (fun e=>hTt e.symm) (.int .i64 (S.seen - 1))).set_ 35 (.bool true)
            rw[Zbu hcom] at h1;exact h1
    · have hmt:m=l.length:=by omega
      subst hmt;go_wp2_with fail;go_returns;refine⟨rfl,hbr,ps,V,?_⟩;rw[<-Zba];exact hst
end
section
open Go.RowKit
structure PNd where
 id:Str
 par:List Str
structure NdOk (N:List PNd):Prop where
 len:N.length<=200
 fit:∀ x ∈ N,x.id.length=32/\hOk x.par/\x.par.length<=8
 inj:∀ (i j:Nat) (x y:PNd),N[i]?=some x->N[j]?=some y->x.id=y.id->i=j
 back:∀ (i:Nat) (x:PNd),N[i]?=some x->∀ d ∈ x.par,∃ (j:Nat) (y:PNd),j<i/\N[j]?=some y/\y.id=d
def ixD(N:List PNd)(d:Str):Nat:=(N.findIdx? (fun x=>x.id == d)).getD 0
theorem Kf{N:List PNd}(h:NdOk N){j:Nat}{y:PNd}(hy:N[j]?=some y):ixD N y.id=j:=by
 obtain⟨hl,hg⟩:=lJ.1 hy;have h1:N.findIdx? (fun x=>x.id == y.id)=some j:=by
  rw[List.findIdx?_eq_some_iff_getElem];refine⟨hl,by rw[hg];simp,fun i hi e=>?_⟩;have:=h.inj i j _ y (lB (by omega)) hy (by simpa using e);omega
 unfold ixD;rw[h1];rfl
def Y6(N:List PNd)(b:List Bool)(ds:List Str):List Bool:=ds.foldl (fun b d=>b.set (ixD N d) true) b
theorem Ot(N:List PNd):∀ (ds:List Str) (b:List Bool),(Y6 N b ds).length=b.length
 | [],b=>rfl
 | d :: ds,b=>by
  have:=Ot N ds (b.set (ixD N d) true);rw[nQ] at this;exact this
theorem Z0m(N:List PNd)(b:List Bool)(ds:List Str)(d:Str):Y6 N b (ds++[d])=(Y6 N b ds).set (ixD N d) true:=by
 unfold Y6;rw[List.foldl_append];rfl
def Vj(N:List PNd)(i:Nat):List Str:=((N[i]?).map (·.par)).getD []
def Xh(N:List PNd):Nat->List Bool->List Bool
 | 0,b=>b
 | i+1,b=>Xh N i (if b.getD i false then Y6 N b (Vj N i) else b)
def Zv(N:List PNd)(ds:List Str):List Bool:=Xh N N.length (Y6 N (lF N.length false) ds)
theorem Zbx(N:List PNd):∀ (i:Nat) (b:List Bool),(Xh N i b).length=b.length
 | 0,b=>rfl
 | i+1,b=>by
  rw[Xh,Zbx N i];split
  ·exact Ot N _ _
  ·rfl
theorem Z3u{N:List PNd}(ds:List Str)(b:List Bool)(i:Nat)(h:∀ d ∈ ds,ixD N d ≠ i):(Y6 N b ds)[i]?=b[i]?:=by
 induction ds generalizing b with
 | nil=>rfl
 | cons d ds ih =>
  have h1:=ih (b.set (ixD N d) true) (fun x hx=>h x (by simp[hx]));have h2:(b.set (ixD N d) true)[i]?=b[i]?:=List.getElem?_set_ne (h d (by simp));exact h1.trans h2
def Q1(N:List PNd)(i:Nat):Str:=((N[i]?).map (·.id)).getD []
def byN(N:List PNd):List (Value × Value):=(nA N.length).map fun i=>(.agg ((Q1 N i).map B).toArray,.int .i64 (i:Int))
theorem Uv{N:List PNd}{i:Nat}{x:PNd}(h:N[i]?=some x):Q1 N i=x.id:=by unfold Q1;rw[h];rfl
theorem Qc{N:List PNd}(h:NdOk N):∀ q ∈ byN N,Ga q.1:=fun q hq=>by
 obtain⟨i,hi,rfl⟩:=lY.1 hq;have hi:=lO.1 hi;have h1:N[i]?=some N[i]:=lB hi;exact⟨Q1 N i,by rw[Uv h1];exact (h.fit _ (lD hi)).1,rfl⟩
theorem Qo{N:List PNd}{i:Nat}{x:PNd}(h:N[i]?=some x):(Value.agg (x.id.map B).toArray,Value.int .i64 (i:Int)) ∈ byN N :=
 lY.2 ⟨i,lO.2 (lJ.1 h).1,by rw[Uv h]⟩
theorem Qp{N:List PNd}(h:NdOk N){i:Nat}{x:PNd}(hx:N[i]?=some x):∀ q ∈ byN N,q.1=.agg (x.id.map B).toArray->q.2=.int .i64 (i:Int):=fun q hq he=>by
 obtain⟨j,hj,rfl⟩:=lY.1 hq;have hj:=lO.1 hj;have h1:N[j]?=some N[j]:=lB hj;dsimp only at he ⊢;rw[Uv h1] at he;rw[h.inj j i _ x h1 hx (Z2t.1 he)]
theorem Z1y{N:List PNd}{d:Str}(h:∀ x ∈ N,x.id ≠ d):∀ q ∈ byN N,q.1 ≠ .agg (d.map B).toArray:=fun q hq he=>by
 obtain⟨j,hj,rfl⟩:=lY.1 hq;have hj:=lO.1 hj;have h1:N[j]?=some N[j]:=lB hj;dsimp only at he;rw[Uv h1] at he;exact h _ (lD hj) (Z2t.1 he)
def Jz:List PNd->List Value->List Value
 | x :: N,p :: ps=>x.id.map B++p :: Jz N ps
 | _,_=>[]
structure NdsIs (w:World) (ok:Nat->Prop) (NV:Value) (N:List PNd):Prop where
 row:∃ A cap,NV=.slice A N.length cap/\∀ (i:Nat) (x:PNd),N[i]?=some x->∃ g p,A=some ⟨g,0,none⟩/\g<w.heap.size/\ok g/\(∀ j v,(x.id.map B)[j]?=some v->w.cell? ⟨g,i*33+j,none⟩=some v)/\w.cell? ⟨g,i*33+32,none⟩=some p/\Z7 w ok p x.par
theorem NdsIs.stay{w w':World}{ok ok':Nat->Prop}{NV:Value}{N:List PNd}(h:NdsIs w ok NV N)(hk:∀ b,ok b->b<w.heap.size->w'.heap[b]?=w.heap[b]?)(hs:w.heap.size<=w'.heap.size)(ho:∀ b,ok b->b<w.heap.size->ok' b):NdsIs w' ok' NV N:=by
 obtain⟨A,cap,rfl,h1⟩:=h.row;refine⟨A,cap,rfl,fun i x hx=>?_⟩;obtain⟨g,p,e1,e2,e3,e4,e5,e6⟩:=h1 i x hx;have hc:∀ (q:Addr),q.block=g->w'.cell? q=w.cell? q:=fun q hq=>by
  unfold nR;rw[hq,hk g e3 e2]
 exact⟨g,p,e1,lQ e2 hs,ho g e3 e2,fun j v hv=>(hc _ rfl).trans (e4 j v hv),(hc _ rfl).trans e5,e6.stay hk ho⟩
theorem NdsIs.stayB{w w':World}{ok:Nat->Prop}{NV:Value}{N:List PNd}(h:NdsIs w ok NV N)(hb:Below w.heap.size w w'):NdsIs w' ok NV N:=h.stay (fun b _ hlt=>hb.block b hlt) hb.size (fun _ h _=>h)
end
section
set_option maxRecDepth 100000
set_option maxHeartbeats 16000000
open Go.Lib renaming hid → iD
open Go.Proofs.Tryz
open Go.RowKit
theorem Z1z(n:Nat)(hn:n<=100000)(w:World):(Instr.makeSlice 139 (.int .i64 (n:Int)) (.int .i64 (n:Int))).run lA w=.ok (.slice (some ⟨w.heap.size,0,none⟩) n n) (w.alloc (.cells ((lF n false).map lI).toArray 4)):=by
 have h:=run_make_row' 139 4 (.bool false) 1 underlying139 (by kernel_rfl) rfl .i64 .i64 n (by omega) (by omega) w;have e:madeCells #[lI false] n=((lF n false).map lI).toArray:=by
  rw[List.map_replicate,<-toList_madeCells_one]
 simpa[e] using h
structure BnSt (w W:World) (vb sb b:Nat) (NV:Value) (N:List PNd) (bs:List Bool):Prop where
 below:Below w.heap.size w W
 P:Blk W w.heap.size 132 [NV,.map (some b)]
 R:Blk W (w.heap.size+1) 150 [Z2,.map none,Z2]
 V:Blk W vb 150 [NV,.map (some b),.slice (some ⟨sb,0,none⟩) N.length N.length]
 S:Blk W sb 4 (bs.map lI)
 len:bs.length=N.length
 lo:w.heap.size<=sb
theorem BnSt.calm{w W W':World}{vb sb b:Nat}{NV:Value}{N:List PNd}{bs:List Bool}(h:BnSt w W vb sb b NV N bs)(hb:Below W.heap.size W W'):BnSt w W' vb sb b NV N bs :=
 ⟨h.below.trans (hb.mono h.below.size),h.P.below hb h.P.lt,h.R.below hb h.R.lt,h.V.below hb h.V.lt,h.S.below hb h.S.lt,h.len,h.lo⟩
theorem BnSt.set{w W:World}{vb sb b:Nat}{NV:Value}{N:List PNd}{bs:List Bool}(h:BnSt w W vb sb b NV N bs)(j:Nat):BnSt w (W.setCell ⟨sb,j,none⟩ (.bool true)) vb sb b NV N (bs.set j true) :=
 ⟨h.below.setCell h.lo _,h.P.far (p:=⟨sb,j,none⟩) (h.P.ne_ h.S (by decide)) _,h.R.far (p:=⟨sb,j,none⟩) (h.R.ne_ h.S (by decide)) _,h.V.far (p:=⟨sb,j,none⟩) (h.V.ne_ h.S (by decide)) _,by
  rw[List.map_set];exact h.S.set_ j _,by rw[nQ];exact h.len,h.lo⟩
theorem Zby(N:List PNd)(hN:NdOk N)(ds:List Str)(hds:∀ d ∈ ds,∃ (j:Nat) (y:PNd),N[j]?=some y/\y.id=d)(hdo:hOk ds)(hdl:ds.length<=1000)(NV IV:Value)(b:Nat)(ok:Nat->Prop)(w:World)(hNV:NdsIs w ok NV N)(hM:Zg w b (byN N))(hI:Z7 w ok IV ds) :
  Calls lA 84 #[.agg #[NV,.map (some b)],IV] w fun e w'=>∃ sb,e=.returned (.agg #[NV,.map (some b),.slice (some ⟨sb,0,none⟩) N.length N.length])/\Blk w' sb 4 ((Zv N ds).map lI)/\w.heap.size<=sb/\Below w.heap.size w w':=by
 have hNl:=hN.len;obtain⟨NA,ncap,hNVe,hnode⟩:=(hNV.stay (ok':=fun _=>True) (fun _ _ _=>rfl) (lC _) (fun _ _ _=>trivial)).row;subst hNVe;have hI':=hI;obtain⟨IA,ic,hIVe,_,_⟩:=hI';subst hIVe;have hIb:=iD (fun W (hb:Below w.heap.size w W)=>hI.stayB hb);have hMb:=iD (fun W (hb:Below w.heap.size w W)=>hM.below hb hM.lt);have hNb:=iD (fun W (hb:Below w.heap.size w W)=>hNV.stayB hb);replace hnode:=iD hnode;have hmk:=Z1z N.length (by omega);have hrep:Array.replicate N.length (lI false)=((lF N.length false).map lI).toArray:=by simp
 replace hrep:=iD hrep;clear hI hM hNV;go_enter func84,ntmps84;go_wp2_with fail;generalize hW1:lH (lH w _) (lR _ 150)=w1;have hb1:Below w.heap.size w w1:=by rw[<-hW1];exact bL.alloc (by simp) _
 have hP:Blk w1 w.heap.size 132 [.slice NA N.length ncap,.map (some b)]:=by rw[<-hW1];exact (Blk.new_at (cs:=[.slice NA N.length ncap,.map (some b)]) rfl).alloc _
 have hR:Blk w1 (w.heap.size+1) 150 [Z2,.map none,Z2]:=by rw[<-hW1];exact Blk.new_at (cs:=[Z2,.map none,Z2]) (by simp)
 clear hW1;replace hP:=iD hP;replace hR:=iD hR;replace hb1:=iD hb1;go_upto_region 1 with fail;go_cut [5] (fun v wx=>∃ vb sb,v=.pointer (some ⟨vb,0,none⟩)/\BnSt w wx vb sb b (.slice NA N.length ncap) N (lF N.length false))
 case first =>
  obtain⟨PS,hPS⟩:∃ PS:World->Prop,∀ x,PS x ↔ Below w1.heap.size w1 x:=⟨_,fun _=>Iff.rfl⟩;have s0:∀ z:Cls PS,z.1.cell? ⟨w.heap.size,0,none⟩=some (.slice NA N.length ncap):=fun z=>(hP.out.below ((hPS _).1 z.2) hP.out.lt).cell 0;have s1:∀ z:Cls PS,z.1.cell? ⟨w.heap.size,1,none⟩=some (.map (some b)):=fun z=>(hP.out.below ((hPS _).1 z.2) hP.out.lt).cell 1;have hbd:=(lL w1.heap.size w1).drew;have s4:PS w1.drew:=(hPS _).2 hbd;haveI : Nonempty (Cls PS):=⟨⟨_,s4⟩⟩;replace hPS:=iD hPS;refine Ur (fun w'=>∃ z:Cls PS,w'=z.1) (.two [0,1,2,3] 4 (.one [5] 6 (.tail [])) 6 (.one [] 4 (.tail [5]))) 7 [] (by kernel_rfl) (by kernel_rfl) (fun _ d _ _ _ h=>by cases d <;> exact h) ⟨⟨_,s4⟩,rfl⟩ ?_;simp only[Kz,Qj,Zj,nE,List.map_nil,Yw,Ys];repeat (first | go_big_quiet_step (fail))
  refine lG ?_;refine⟨?_,?_⟩
  ·intro K hK;go_simp;refine hK _ _ ⟨⟨_,(hPS.out _).2 (bL.drew)⟩,rfl⟩ ?_;clear hK;repeat (first | go_big_quiet_step (fail))
   refine lG ?_;intro K hK;go_simp;refine hK _ _ ⟨⟨_,(hPS.out _).2 ((bL.alloc (by simp) _).drew)⟩,rfl⟩ ?_;clear hK;refine lG ?_;go_wp2_with fail;go_meet;refine⟨w1.heap.size+1,w1.heap.size,rfl,?_⟩;rw[hrep.out];have hbb:Below w1.heap.size w1 ((w1.alloc (.cells ((lF N.length false).map lI).toArray 4)).alloc (.cells #[.slice NA N.length ncap,.map (some b),.slice (some ⟨w1.heap.size,0,none⟩) N.length N.length] 150)).drew:=(bL.alloc (by simp) _).drew;exact⟨hb1.out.trans (hbb.mono hb1.out.size),hP.out.below hbb hP.out.lt,hR.out.below hbb hR.out.lt,(Blk.new_at (cs:=[.slice NA N.length ncap,.map (some b),.slice (some ⟨w1.heap.size,0,none⟩) N.length N.length]) (by simp)).drew,((Blk.new_at (cs:=(lF N.length false).map lI) rfl).alloc _).drew,by simp,hb1.out.size⟩
  ·intro K hK;go_simp;refine hK _ _ ⟨⟨_,(hPS.out _).2 (bL.drew)⟩,rfl⟩ ?_;clear hK;refine lG ?_;intro K hK;go_simp;refine hK _ _ ⟨⟨_,(hPS.out _).2 ((bL.alloc (by simp) _).drew)⟩,rfl⟩ ?_;clear hK;repeat (first | go_big_quiet_step (fail))
   refine lG ?_;go_wp2_with fail;go_meet;refine⟨w1.heap.size,w1.heap.size+1,rfl,?_⟩;rw[hrep.out];have hbb:Below w1.heap.size w1 ((w1.alloc (.cells #[.slice NA N.length ncap,.map (some b),.slice (some ⟨w1.heap.size+1,0,none⟩) N.length N.length] 150)).alloc (.cells ((lF N.length false).map lI).toArray 4)).drew:=(bL.alloc (by simp) _).drew;exact⟨hb1.out.trans (hbb.mono hb1.out.size),hP.out.below hbb hP.out.lt,hR.out.below hbb hR.out.lt,((Blk.new_at (cs:=[.slice NA N.length ncap,.map (some b),.slice (some ⟨w1.heap.size+1,0,none⟩) N.length N.length]) rfl).alloc _).drew,(Blk.new_at (cs:=(lF N.length false).map lI) (by simp)).drew,by simp,Nat.le_succ_of_le hb1.out.size⟩
 case rest =>
  obtain⟨vb,sb,rfl,hst⟩:=hcut;clear hP hR hb1 hmk hrep;have hst2:=iD hst;clear hst;go_wp2_with fail;go_loopw [19] (fun i wr=>∃ m:Nat,m<=ds.length/\i=.int .i64 (m:Int)/\BnSt w wr vb sb b (.slice NA N.length ncap) N (Y6 N (lF N.length false) (ds.take m))) (fun i _=>ds.length - (intOf i).toNat)
  case atStart=>exact⟨0,lK _,rfl,hst2.out⟩
  case round =>
   obtain⟨m,hm,rfl,hst⟩:=hrel;by_cases hlt:m<ds.length
   ·have hIr:=hIb.out _ hst.below;obtain⟨ib,io,hIA,_,hbl,hc1⟩:=hIr.dig hdo m hlt;subst hIA;obtain⟨d,hd⟩:∃ d,d=ds[m]:=⟨_,rfl⟩;have hdl':d.length=32:=by rw[hd];exact hdo _ (lD _)
    obtain⟨j,y,hj,hy⟩:=hds d (by rw[hd];exact lD _);have hjn:j<N.length:=(lJ.1 hj).1;have hix:ixD N d=j:=by rw[<-hy];exact Kf hN hj
    rw[<-hd] at hc1;obtain⟨bs,hbs⟩:∃ bs,bs=Y6 N (lF N.length false) (ds.take m):=⟨_,rfl⟩;rw[<-hbs] at hst;have hnx:Hid (Y6 N (lF N.length false) (ds.take (m+1))=bs.set j true):=iD (by
     rw[nC hlt,Z0m,<-hbs,<-hd,hix])
    have i1:(0:Int)<=(m:Int):=by omega
    have i2:(m:Int)<(ds.length:Int):=by omega
    have k1:(0:Int)<=(j:Int):=by omega
    have k2:(j:Int)<(N.length:Int):=by omega
    have hMm:=iD (Qo hj);have hMu:=iD (Qp hN hj);have hMk:=iD (Qc hN);rw[hy] at hMm hMu;replace hst:=iD hst;replace hc1:=iD hc1;replace hd:=iD hd;replace hbs:=iD hbs;replace hix:=iD hix;clear hIr hst2;go_upto_region 5 with (first
     | (refine l2 rfl 47 (.tmp 21) rfl ib (io+m*32) rfl (d.map B) _ (fun j v hv=>hc1.out j v hv) underlying47 rfl (Za hdl') ?_;go_frame)
     | (refine Zo rfl 47 (.tmp 7) (.tmp 22) rfl wr.heap.size (d.map B) rfl rfl 47 Z3 (Blk.new_at rfl) (by simp[hdl',Z3]) (Za hdl') (Yk _) ?_;go_frame)
     | fail)
    generalize hw1:lX _ wr.heap.size (d.map B).toArray=w9;have hB9:Blk w9 wr.heap.size 47 (d.map B):=by
     rw[<-hw1];exact (Blk.new_at (w:=wr) (t:=47) (cs:=Z3) rfl).setRow_same (d.map B)
    have hb9:Below wr.heap.size wr w9:=by
     rw[<-hw1];exact below_setRow ((lL wr.heap.size wr).alloc (lC _) (.cells Z3.toArray 47)) (lC _) (d.map B).toArray
    have hst9:=hst.out.calm hb9;have v2:w9.cell? ⟨vb,2,none⟩=some (.slice (some ⟨sb,0,none⟩) N.length N.length):=hst9.V.cell 2;have p1:w9.cell? ⟨w.heap.size,1,none⟩=some (.map (some b)):=hst9.P.cell 1;have hD9:Hid (∀ w',(∃ n,w'=w9.drewN n)->Blk w' wr.heap.size 47 (d.map B)):=iD (by rintro _ ⟨n,rfl⟩;exact hB9.drewN n);have hrun:Hid (∀ w',(∃ n,w'=w9.drewN n)->(nS 26 (.map (some b)) (.agg (d.map B).toArray) false).run lA w'=.ok (.int .i64 (j:Int)) w'):=iD (by
     rintro _ ⟨n,rfl⟩;have hM5:Zg (w9.drewN n) b (byN N):=(hMb.out _ hst9.below).block rfl;exact hM5.look_some Xz underlying26 hMk.out (Jm d hdl') hMm.out hMu.out false)
    clear hw1 hb9 hB9;replace hst9:=iD hst9;refine Ye 6 (by kernel_rfl) (by kernel_rfl) ?_;simp only[lS,lT,lU,lV];repeat (first
     | go_big_quiet_step (fail)
     | (refine Yf 47 (.tmp 7) rfl rfl wr.heap.size 0 rfl 47 (d.map B) (d.map B) [] hD9.out (by simp) _ underlying47 rfl (Za hdl') ?_;go_frame)
     | (refine Yp (.lookup 26 (.tmp 26) (.tmp 27) false) rfl rfl (.int .i64 (j:Int)) (fun w' hw'=>Jk 26 (.tmp 26) (.tmp 27) false rfl _ _ _ rfl rfl (hrun.out w' hw')) ?_;go_frame))
    refine lG ?_;rintro _ ⟨nq,rfl⟩;have hbq:Below w9.heap.size w9 (w9.drewN nq):=(Touch.drewN (L:=[]) nq).below (lC _) (fun _ hi=>by cases hi);have hstq:=hst9.out.calm hbq;generalize w9.drewN nq=w10 at hstq ⊢;have hjb:j<bs.length:=by rw[hstq.len];exact hjn
    have s0:w10.cell? ⟨sb,j,none⟩=some (.bool bs[j]):=by rw[hstq.S.cell];simp[hjb]
    have sf:=hstq.S.frozen j;have hset:=iD (hstq.set j);clear hstq hrun hD9 v2 p1 hst9 hbq;go_wp2_with fail;refine⟨⟨m+1,by omega,by go_num,?_⟩,by simp[intOf];omega⟩;rw[hnx.out];exact hset.out
   ·have hmt:m=ds.length:=by omega
    subst hmt;rw[l1] at hst;clear hst2;obtain⟨bs0,hbs0⟩:∃ bs0,bs0=Y6 N (lF N.length false) ds:=⟨_,rfl⟩;rw[<-hbs0] at hst;have p0:wr.cell? ⟨w.heap.size,0,none⟩=some (.slice NA N.length ncap):=hst.P.cell 0;have gN:IntKind.i64.wrap ((N.length:Int) - 1)=(N.length:Int) - 1:=l0 _ (by omega);replace hst:=iD hst;replace hbs0:=iD hbs0;go_wp2_with fail;go_loopw [8] (fun iv wr=>∃ (k:Nat) (z:Int) (bs:List Bool),k<=N.length/\z=(k:Int) - 1/\iv=.int .i64 z/\BnSt w wr vb sb b (.slice NA N.length ncap) N bs/\Xh N k bs=Xh N N.length bs0) (fun iv _=>((intOf iv)+1).toNat)
    case atStart=>exact⟨N.length,_,bs0,lC _,rfl,rfl,hst.out,rfl⟩
    case round =>
     obtain⟨k,z,bs,hk,hz,rfl,hst3,hbn⟩:=hrel;by_cases hk0:k=0
     ·have gz:decide ((0:Int)<=z)=false:=decide_eq_false (by omega);have hbs:bs=Zv N ds:=by
       rw[hk0] at hbn;unfold Zv;rw[<-hbs0.out,<-hbn];rfl
      rw[hbs] at hst3;have e0:wr.cell? ⟨vb,0,none⟩=some (.slice NA N.length ncap):=hst3.V.cell 0;have e1:wr.cell? ⟨vb,1,none⟩=some (.map (some b)):=hst3.V.cell 1;have e2:wr.cell? ⟨vb,2,none⟩=some (.slice (some ⟨sb,0,none⟩) N.length N.length):=hst3.V.cell 2;replace hst3:=iD hst3;replace hz:=iD hz;replace hbn:=iD hbn;replace hbs:=iD hbs;clear hst hk0;go_wp2_with (first | (refine Zo rfl 150 (.tmp 4) (.tmp 63) rfl (w.heap.size+1) [.slice NA N.length ncap,.map (some b),.slice (some ⟨sb,0,none⟩) N.length N.length] rfl rfl 150 [Z2,.map none,Z2] hst3.out.R rfl (by kernel_rfl) (by simp[lW]) ?_) | fail);exact Z0q rfl (w.heap.size+1) 150 [.slice NA N.length ncap,.map (some b),.slice (some ⟨sb,0,none⟩) N.length N.length] _ rfl (hst3.out.R.setRow_same _) underlying150 rfl (by kernel_rfl) rfl ⟨sb,rfl,hst3.out.S.setRow_far (hst3.out.S.ne_ hst3.out.R (by decide)) _,hst3.out.lo,below_setRow hst3.out.below (by omega) _⟩
     ·obtain⟨q,hq⟩:∃ q,k=q+1:=⟨k - 1,by omega⟩;subst hq;obtain rfl:z=(q:Int):=by omega
      have hqn:q<N.length:=by omega
      obtain⟨x,hx⟩:∃ x,x=N[q]:=⟨_,rfl⟩;have hxq:N[q]?=some x:=by rw[hx];exact lB hqn
      obtain⟨_,hpo,hpl⟩:=hN.fit x (by rw[hx];exact lD _);obtain⟨g,p,hNA,hgl,_,_,hpc,hpar⟩:=hnode.out q x hxq;have hpw:=iD hpar.ltB;obtain⟨PA,pc,rfl,_,_⟩:=hpar;subst hNA;have hpcr:wr.cell? ⟨g,q*33+32,none⟩=some (.slice PA x.par.length pc):=by rw[hst3.below.cell (p:=⟨g,q*33+32,none⟩) hgl];exact hpc
      have q0:wr.cell? ⟨w.heap.size,0,none⟩=some (.slice (some ⟨g,0,none⟩) N.length ncap):=hst3.P.cell 0;have gz:decide ((0:Int)<=(q:Int))=true:=decide_eq_true (by omega);have j1:(0:Int)<=(q:Int):=by omega
      have j2:(q:Int)<(N.length:Int):=by omega
      have hback:=iD (hN.back q x hxq);have hst4:=iD hst3;have hwr:Hid (Below w.heap.size w wr):=iD hst3.below;replace hx:=iD hx;replace hxq:=iD hxq;replace hbn:=iD hbn;clear hst hst3 hpc hz hk0 p0;go_wp2_with fail;clear hpcr q0;go_loopw [46] (fun i wv=>∃ m:Nat,m<=x.par.length/\i=.int .i64 (m:Int)/\BnSt w wv vb sb b (.slice (some ⟨g,0,none⟩) N.length ncap) N (if bs.getD q false then Y6 N bs (x.par.take m) else bs)) (fun i _=>x.par.length - (intOf i).toNat)
      case atStart =>
       refine⟨0,lK _,rfl,?_⟩;have:=hst4.out;split
       ·exact this
       ·exact this
      case round =>
       obtain⟨m,hm,rfl,hst5⟩:=hrel;obtain⟨b2,hb2⟩:∃ b2,b2=(if bs.getD q false then Y6 N bs (x.par.take m) else bs):=⟨_,rfl⟩;rw[<-hb2] at hst5;by_cases hlt:m<x.par.length
       ·have hIr:=hpw.out.low hst5.below;obtain⟨ib,io,hPA,_,hbl,hc1⟩:=hIr.dig hpo m hlt;subst hPA;obtain⟨d,hd⟩:∃ d,d=x.par[m]:=⟨_,rfl⟩;have hdl':d.length=32:=by rw[hd];exact hpo _ (lD _)
        obtain⟨j,y,hjq,hj,hy⟩:=hback.out d (by rw[hd];exact lD _);have hjn:j<N.length:=(lJ.1 hj).1;have hix:ixD N d=j:=by rw[<-hy];exact Kf hN hj
        rw[<-hd] at hc1;have hqb:q<bs.length:=by rw[hst4.out.len];exact hqn
        have hkeep:b2[q]?=bs[q]?:=by
         rw[hb2];split
         ·refine Z3u _ _ _ (fun d' hd'=>?_);obtain⟨j',y',h1,h2,h3⟩:=hback.out d' (List.mem_of_mem_take hd');rw[<-h3,Kf hN h2];omega
         ·rfl
        have v2:wr.cell? ⟨vb,2,none⟩=some (.slice (some ⟨sb,0,none⟩) N.length N.length):=hst5.V.cell 2;have sq:∀ W,BnSt w W vb sb b (.slice (some ⟨g,0,none⟩) N.length ncap) N b2->W.cell? ⟨sb,q,none⟩=some (.bool (bs.getD q false)):=fun W hW=>by
         rw[hW.S.cell,nK,hkeep];simp[List.getD,hqb]
        have i1:(0:Int)<=(m:Int):=by omega
        have i2:(m:Int)<(x.par.length:Int):=by omega
        have k1:(0:Int)<=(j:Int):=by omega
        have k2:(j:Int)<(N.length:Int):=by omega
        have hMm:=iD (Qo hj);have hMu:=iD (Qp hN hj);have hMk:=iD (Qc hN);rw[hy] at hMm hMu;replace hst5:=iD hst5;replace hc1:=iD hc1;replace hd:=iD hd;replace hb2:=iD hb2;replace hix:=iD hix;replace sq:=iD sq;replace hkeep:=iD hkeep;clear hIr v2;go_upto_region 13 with (first
         | (refine l2 rfl 47 (.tmp 48) rfl ib (io+m*32) rfl (d.map B) _ (fun j v hv=>hc1.out j v hv) underlying47 rfl (Za hdl') ?_;go_frame)
         | (refine Zo rfl 47 (.tmp 10) (.tmp 49) rfl wr.heap.size (d.map B) rfl rfl 47 Z3 (Blk.new_at rfl) (by simp[hdl',Z3]) (Za hdl') (Yk _) ?_;go_frame)
         | fail)
        generalize hw1:lX _ wr.heap.size (d.map B).toArray=w9;have hB9:Blk w9 wr.heap.size 47 (d.map B):=by
         rw[<-hw1];exact (Blk.new_at (w:=wr) (t:=47) (cs:=Z3) rfl).setRow_same (d.map B)
        have hb9:Below wr.heap.size wr w9:=by
         rw[<-hw1];exact below_setRow ((lL wr.heap.size wr).alloc (lC _) (.cells Z3.toArray 47)) (lC _) (d.map B).toArray
        have hst9:=hst5.out.calm hb9;have v2:w9.cell? ⟨vb,2,none⟩=some (.slice (some ⟨sb,0,none⟩) N.length N.length):=hst9.V.cell 2;have sq9:=sq.out _ hst9;cases hbq:bs.getD q false with
        | false =>
         rw[hbq] at sq9;replace hst9:=iD hst9;clear hw1 hB9 hb9;have hbe:Hid (b2=bs):=iD (by rw[hb2.out,hbq];rfl);replace hbq:=iD hbq;go_wp2_with fail;refine⟨⟨m+1,by omega,by go_num,?_⟩,by simp[intOf];omega⟩;rw[if_neg (by rw[hbq.out];decide),<-hbe.out];exact hst9.out
        | true =>
         rw[hbq] at sq9;have hnx:Hid ((if bs.getD q false then Y6 N bs (x.par.take (m+1)) else bs)=b2.set j true):=iD (by
          rw[hb2.out,if_pos hbq,if_pos hbq,nC hlt,Z0m,<-hd.out,hix.out])
         have p1:w9.cell? ⟨w.heap.size,1,none⟩=some (.map (some b)):=hst9.P.cell 1;have hD9:Hid (∀ w',(∃ n,w'=w9.drewN n)->Blk w' wr.heap.size 47 (d.map B)):=iD (by rintro _ ⟨n,rfl⟩;exact hB9.drewN n);have hrun:Hid (∀ w',(∃ n,w'=w9.drewN n)->(nS 26 (.map (some b)) (.agg (d.map B).toArray) false).run lA w'=.ok (.int .i64 (j:Int)) w'):=iD (by
          rintro _ ⟨n,rfl⟩;have hM5:Zg (w9.drewN n) b (byN N):=(hMb.out _ hst9.below).block rfl;exact hM5.look_some Xz underlying26 hMk.out (Jm d hdl') hMm.out hMu.out false)
         clear hw1 hb9 hB9;replace hst9:=iD hst9;replace hbq:=iD hbq;go_wp2_with fail;refine Ye 6 (by kernel_rfl) (by kernel_rfl) ?_;simp only[lS,lT,lU,lV];repeat (first
          | go_big_quiet_step (fail)
          | (refine Yf 47 (.tmp 10) rfl rfl wr.heap.size 0 rfl 47 (d.map B) (d.map B) [] hD9.out (by simp) _ underlying47 rfl (Za hdl') ?_;go_frame)
          | (refine Yp (.lookup 26 (.tmp 58) (.tmp 59) false) rfl rfl (.int .i64 (j:Int)) (fun w' hw'=>Jk 26 (.tmp 58) (.tmp 59) false rfl _ _ _ rfl rfl (hrun.out w' hw')) ?_;go_frame))
         refine lG ?_;rintro _ ⟨nq,rfl⟩;have hbq2:Below w9.heap.size w9 (w9.drewN nq):=(Touch.drewN (L:=[]) nq).below (lC _) (fun _ hi=>by cases hi);have hstq:=hst9.out.calm hbq2;generalize w9.drewN nq=w10 at hstq ⊢;have hjb:j<b2.length:=by rw[hstq.len];exact hjn
         have s0:w10.cell? ⟨sb,j,none⟩=some (.bool b2[j]):=by rw[hstq.S.cell];simp[hjb]
         have sf:=hstq.S.frozen j;have hset:=iD (hstq.set j);clear hstq hrun hD9 v2 p1 hst9 hbq2 sq9;go_wp2_with fail;refine⟨⟨m+1,by omega,by go_num,?_⟩,by simp[intOf];omega⟩;rw[hnx.out];exact hset.out
       ·have hmt:m=x.par.length:=by omega
        subst hmt;rw[l1] at hb2;have gq:IntKind.i64.wrap ((q:Int) - 1)=(q:Int) - 1:=l0 _ (by omega);have hbn':Hid (Xh N q b2=Xh N N.length bs0):=iD (by
         rw[<-hbn.out,Xh,hb2];have : Vj N q=x.par:=by unfold Vj;rw[hxq.out];rfl
         rw[this])
        replace hst5:=iD hst5;replace hb2:=iD hb2;go_wp2_with fail;refine⟨⟨q,(q:Int) - 1,b2,by omega,rfl,by first | rfl | go_num,hst5.out,hbn'.out⟩,by simp[intOf]⟩
end
section
set_option maxRecDepth 100000
set_option maxHeartbeats 8000000
open Go.Lib renaming hid → iD
open Go.Proofs.Tryz
open Go.RowKit
structure CsIs (w:World) (ok:Nat->Prop) (v:Value) (L:List PCom):Prop where
 row:∃ A cap,v=.slice A L.length cap/\∀ (i:Nat) (c:PCom),L[i]?=some c->∃ b o cs,A=some ⟨b,o,none⟩/\ok b/\b<w.heap.size/\Y8 w ok cs c/\∀ j u,cs[j]?=some u->w.cell? ⟨b,o+i*4+j,none⟩=some u
theorem CsIs.stay{w w':World}{ok ok':Nat->Prop}{v:Value}{L:List PCom}(h:CsIs w ok v L)(hk:∀ b,ok b->b<w.heap.size->w'.heap[b]?=w.heap[b]?)(hs:w.heap.size<=w'.heap.size)(ho:∀ b,ok b->b<w.heap.size->ok' b):CsIs w' ok' v L:=by
 obtain⟨A,cap,rfl,h1⟩:=h.row;refine⟨A,cap,rfl,fun i c hc=>?_⟩;obtain⟨b,o,cs,e1,e2,e3,e4,e5⟩:=h1 i c hc;refine⟨b,o,cs,e1,ho b e2 e3,lQ e3 hs,e4.stay hk ho,fun j u hj=>?_⟩;have:=e5 j u hj;unfold nR at this ⊢;rw[hk b e2 e3];exact this
theorem CsIs.stayB{w w':World}{ok:Nat->Prop}{v:Value}{L:List PCom}(h:CsIs w ok v L)(hb:Below w.heap.size w w'):CsIs w' ok v L:=h.stay (fun b _ hlt=>hb.block b hlt) hb.size (fun _ h _=>h)
theorem Zlx(N:List PNd)(hN:NdOk N)(L:List PCom)(_hLl:L.length<=200)(hLf:∀ c ∈ L,ComFit c)(bs:List Bool)(r:PRef)(hrc:r.com.length=32)(k m:Nat)(y:PNd)(cc:PCom)(x:POp)(hk:N[k]?=some y)(hy:y.id=r.com)(hb:bs[k]?=some true)(_hbl:bs.length=N.length)(hc:L[k]?=some cc)(hm:cc.ops[m]?=some x)(hx:x.kind=1)(hn:r.n=(m:Int)+1)
  (NV LV:Value) (b sb:Nat) (ok:Nat->Prop) (w:World) (hM:Zg w b (byN N)) (hS:Blk w sb 4 (bs.map lI)) (hL:CsIs w ok LV L) :
  Calls lA 209 #[.agg #[NV,.map (some b),.slice (some ⟨sb,0,none⟩) N.length N.length],LV,Zl r] w fun e w'=>e=.returned (.bool true)/\Below w.heap.size w w':=by
 have hkn:k<N.length:=(lJ.1 hk).1;have hNl:=hN.len;have hkl:k<L.length:=(lJ.1 hc).1;have hml:m<cc.ops.length:=(lJ.1 hm).1;have hccf:=hLf cc (List.mem_of_getElem? hc);obtain⟨A,cap,hLV,hcom⟩:=hL.row;subst hLV;obtain⟨cb,co,cs,hA,_,hcbl,hCI,hcc⟩:=hcom k cc hc;subst hA;obtain⟨pv,ov,rfl,_,hO⟩:=hCI;have hO':=hO;obtain⟨OA,oc,rfl,_,_⟩:=hO';obtain⟨ob,oo,hOA,_,hobl,hop⟩:=hO.op hccf.ops.ok m hml;subst hOA;have hxe:cc.ops[m]=x:=nL ((lB hml).symm.trans hm);rw[hxe] at hop;have hol:=hccf.ops.len;unfold Zl;replace hn:=iD hn;replace hy:=iD hy;go_enter func209,ntmps209;go_upto_region 1 with fail;generalize hW1:lH (lH w _) (lR _ 158)=w1;have hb1:Below w.heap.size w w1:=by rw[<-hW1];exact bL.alloc (by simp) _
 have hV:Blk w1 w.heap.size 150 [NV,.map (some b),.slice (some ⟨sb,0,none⟩) N.length N.length]:=by rw[<-hW1];exact (Blk.new_at (cs:=[NV,.map (some b),.slice (some ⟨sb,0,none⟩) N.length N.length]) rfl).alloc _
 have hR:Blk w1 (w.heap.size+1) 158 (Z1 r):=by rw[<-hW1];exact Blk.new_at (cs:=Z1 r) (by simp)
 have hM1:=hM.below hb1 hM.lt;have hrun:=iD (hM1.look_some Xz underlying26 (Qc hN) (Jm r.com hrc) (by rw[<-hy.out];exact Qo hk) (by rw[<-hy.out];exact Qp hN hk) true);have v1:w1.cell? ⟨w.heap.size,1,none⟩=some (.map (some b)):=hV.cell 1;have v2:w1.cell? ⟨w.heap.size,2,none⟩=some (.slice (some ⟨sb,0,none⟩) N.length N.length):=hV.cell 2;have r33:w1.cell? ⟨w.heap.size+1,33,none⟩=some (.int .i64 ((m:Int)+1)):=by
  rw[hR.cell];simp[Z1,hrc,hn.out]
 have sk:w1.cell? ⟨sb,k,none⟩=some (.bool true):=by
  rw[hb1.cell (p:=⟨sb,k,none⟩) hS.lt,hS.cell];simp[hb]
 have ck:w1.cell? ⟨cb,co+k*4+3,none⟩=some (.slice (some ⟨ob,oo,none⟩) cc.ops.length oc):=by
  rw[hb1.cell (p:=⟨cb,co+k*4+3,none⟩) hcbl];exact hcc 3 _ rfl
 have ok_:w1.cell? ⟨ob,oo+m*37,none⟩=some (.int .i64 1):=by
  rw[hb1.cell (p:=⟨ob,oo+m*37,none⟩) hobl];have:=hop 0 (.int .i64 x.kind) rfl;rw[hx] at this;simpa using this
 have k1:(0:Int)<=(k:Int):=by omega
 have k2:(k:Int)<(N.length:Int):=by omega
 have k3:(k:Int)<(L.length:Int):=by omega
 have m1:(0:Int)<=(m:Int):=by omega
 have m2:(m:Int)<(cc.ops.length:Int):=by omega
 have gm:IntKind.i64.wrap ((m:Int)+1 - 1)=(m:Int):=by rw[show (m:Int)+1 - 1=m by omega];exact l0 _ (by omega)
 have gl:decide ((m:Int)+1<=(cc.ops.length:Int))=true:=decide_eq_true (by omega);replace hR:=iD hR;replace hb1:=iD hb1;clear hM hM1 hV hS hL hcom hcc hop hO hW1 hb hk hc hm;go_upto_region 2 with (first
  | (refine K3 rfl 47 (.tmp 13) rfl (w.heap.size+1) 1 rfl 158 (Z1 r) (r.com.map B) [.int .i64 r.n] hR.out (by simp[Z1]) _ underlying47 rfl (Za hrc) ?_;go_frame)
  | (refine Ke rfl (.tuple #[.int .i64 (k:Int),.bool true]) (Jk 26 (.tmp 12) (.tmp 14) true rfl _ _ _ rfl rfl hrun.out) ?_;go_frame)
  | fail)
 refine wp_region_quiet_lit (by kernel_rfl) (by kernel_rfl) ?_;repeat (first | go_big_quiet_step (fail))
 refine lG ?_;rintro _ ⟨nq,rfl⟩;go_wp2_with fail;go_ret;refine⟨rfl,hb1.out.trans ((Touch.drewN (L:=[]) nq).below hb1.out.size (fun _ hi=>by cases hi))⟩
end
section
set_option maxRecDepth 100000
set_option maxHeartbeats 16000000
open Go.Lib renaming hid → iD
open Go.Proofs.Tryz
open Go.RowKit
structure NextOk (N:List PNd) (L:List PCom) (c:PCom):Prop where
 fit:ComFit c
 may:MayOk c
 new:∀ x ∈ N,x.id ≠ idC c
 par:∀ d ∈ c.parents,∃ (j:Nat) (y:PNd),N[j]?=some y/\y.id=d
 far:∀ (i:Nat) (x:POp),c.ops[i]?=some x->x.at_.own=false->0<x.at_.n->∃ (k m:Nat) (y:PNd) (cc:PCom) (z:POp),N[k]?=some y/\y.id=x.at_.com/\(Zv N c.parents)[k]?=some true/\L[k]?=some cc/\cc.ops[m]?=some z/\z.kind=1/\x.at_.n=(m:Int)+1
theorem Zbz(N:List PNd)(ds:List Str):(Zv N ds).length=N.length:=by
 unfold Zv;rw[Zbx,Ot,List.length_replicate]
theorem Zly(N:List PNd)(hN:NdOk N)(L:List PCom)(hLl:L.length<=200)(hLf:∀ c ∈ L,ComFit c)(c:PCom)(h:NextOk N L c)(cs:List Value)(NV LV:Value)(b:Nat)(ok:Nat->Prop)(w:World)(hC:Y8 w ok cs c)(hNV:NdsIs w ok NV N)(hM:Zg w b (byN N))(hL:CsIs w ok LV L)(hK:Y9 w) :
    Calls lA 151 #[.agg #[NV,.map (some b)],LV,.agg cs.toArray] w fun e w'=>e=.returned (.tuple #[.agg ((idC c).map B).toArray,.int .i64 0])/\Below w.heap.size w w':=by
  obtain⟨hf,hmay,hnew,hpar,hfar⟩:=h;have hid:=iD (fun W (hb:Below w.heap.size w W)=>Z6k c cs ok W (hC.stayB hb) hf hmay (keys_below hK hb));have hC':=hC;obtain⟨PV,ov,rfl,hPV,hOV⟩:=hC';have hpo:=hf.par.ok;have hpl:=hmay.par;have hol:=hmay.ops;have hPb:=iD (fun W (hb:Below w.heap.size w W)=>hPV.stayB hb);have hOb:=iD (fun W (hb:Below w.heap.size w W)=>hOV.stayB hb);have hMb:=iD (fun W (hb:Below w.heap.size w W)=>hM.below hb hM.lt);have hbn:=iD (fun W (hb:Below w.heap.size w W)=>Zby N hN c.parents hpar hpo (by omega) NV PV b ok W (hNV.stayB hb) (hM.below hb hM.lt) (hPV.stayB hb));have hLb:=iD (fun W (hb:Below w.heap.size w W)=>hL.stayB hb);have hNV':=hNV.row;obtain⟨NA,ncap,hNVe,_⟩:=hNV';obtain⟨PA,pc,rfl,_,_⟩:=hPV;obtain⟨OA,oc,rfl,_,_⟩:=hOV;have hfi:=iD (fun (r:PRef) (hrc:r.com.length=32) k m y cc z h1 h2 h3 h4 h5 h6 h7 sb W (hb:Below w.heap.size w W) hS=>Zlx N hN L hLl hLf (Zv N c.parents) r hrc k m y cc z h1 h2 h3 (Zbz _ _) h4 h5 h6 h7 NV LV b sb ok W (hM.below hb hM.lt) hS (hL.stayB hb));obtain⟨ds,hds⟩:∃ ds,ds=idC c:=⟨_,rfl⟩;have hdl:ds.length=32:=by rw[hds];rfl
  have hnone:=iD (Z1y (d:=ds) (N:=N) (by rw[hds];exact hnew));have hMk:=iD (Qc hN);rw[<-hds] at hid ⊢;replace hds:=iD hds;have hof:=iD hf.ops.ok;replace hfar:=iD hfar;replace hpar:=iD hpar;clear hC hNV hM hL hK hnew hmay hf;subst hNVe;unfold Z0 at hid ⊢;go_enter func151,ntmps151;go_wp2_with fail;generalize hW1:lH (lH (lH w _) _) (lR _ 47)=w1;have hb1:Below w.heap.size w w1:=by rw[<-hW1];exact (bL.alloc (by simp) _).alloc (by simp;omega) _
  have hP:Blk w1 w.heap.size 132 [.slice NA N.length ncap,.map (some b)]:=by rw[<-hW1];exact ((Blk.new_at (cs:=[.slice NA N.length ncap,.map (some b)]) rfl).alloc _).alloc _
  have hC:Blk w1 (w.heap.size+1) 82 [.slice PA c.parents.length pc,.string ⟨c.author.toArray⟩,.string ⟨c.note.toArray⟩,.slice OA c.ops.length oc]:=by rw[<-hW1];exact (Blk.new_at (cs:=[.slice PA c.parents.length pc,.string ⟨c.author.toArray⟩,.string ⟨c.note.toArray⟩,.slice OA c.ops.length oc]) (by simp)).alloc _
  have hR:Blk w1 (w.heap.size+2) 47 Z3:=by rw[<-hW1];exact Blk.new_at (cs:=Z3) (by simp)
  clear hW1;refine (hid.out _ hb1).mono ?_;rintro e w2 ⟨rfl,hb2⟩;have hP2:=hP.below hb2 hP.lt;have hC2:=hC.below hb2 hC.lt;have hR2:=hR.below hb2 hR.lt;have hbw2:=hb1.trans (hb2.mono hb1.size);clear hb1 hb2 hP hC hR hid;replace hP2:=iD hP2;replace hC2:=iD hC2;replace hR2:=iD hR2;replace hbw2:=iD hbw2;go_wp2_with (first
    | (refine Zo rfl 47 (.tmp 8) (.tmp 22) rfl w2.heap.size (ds.map B) rfl rfl 47 Z3 (Blk.new_at rfl) (by simp[hdl,Z3]) (Za hdl) (Yk _) ?_
       generalize hw1:lX _ w2.heap.size (ds.map B).toArray=w3;have hD3:Blk w3 w2.heap.size 47 (ds.map B):=by
         rw[<-hw1];exact (Blk.new_at (w:=w2) (t:=47) (cs:=Z3) rfl).setRow_same (ds.map B)
       have hb3:Below w2.heap.size w2 w3:=by
         rw[<-hw1];exact below_setRow ((lL w2.heap.size w2).alloc (lC _) (.cells Z3.toArray 47)) (lC _) (ds.map B).toArray
       clear hw1;have hP3:=hP2.out.below hb3 hP2.out.lt;have hC3:=hC2.out.below hb3 hC2.out.lt;have hR3:=iD (hR2.out.below hb3 hR2.out.lt);have hb3w:=hbw2.out.trans (hb3.mono hbw2.out.size);have hrun3:=(hMb.out _ hb3w).look_none Xz underlying26 (z:=.int .i64 0) (by kernel_rfl) hMk.out (Jm ds hdl) hnone.out true;have p0:w3.cell? ⟨w.heap.size,0,none⟩=some (.slice NA N.length ncap):=hP3.cell 0;have p1:w3.cell? ⟨w.heap.size,1,none⟩=some (.map (some b)):=hP3.cell 1;have q0:w3.cell? ⟨w.heap.size+1,0,none⟩=some (.slice PA c.parents.length pc):=hC3.cell 0;replace hrun3:=iD hrun3;replace hD3:=iD hD3;replace hb3:=iD hb3;replace hb3w:=iD hb3w;replace hP3:=iD hP3;replace hC3:=iD hC3;go_frame)
    | (refine Y0 rfl 47 (.tmp 8) rfl w2.heap.size rfl 47 (ds.map B) hD3.out _ underlying47 rfl (Za hdl) ?_)
    | (refine Ke rfl (.tuple #[.int .i64 0,.bool false]) (Jk 26 (.tmp 30) (.tmp 31) true rfl _ _ _ rfl rfl hrun3.out) ?_;go_frame)
    | fail)
  clear p0 p1 q0 hrun3 hP2 hC2 hR2;have hws2:=hbw2.out.size;go_loopw [40] (fun i wr=>∃ m:Nat,m<=c.parents.length/\i=.int .i64 (m:Int)/\Below w3.heap.size w3 wr) (fun i _=>c.parents.length - (intOf i).toNat)
  case atStart=>exact⟨0,lK _,rfl,lL _ _⟩
  case round =>
    obtain⟨m,hm,rfl,hbr⟩:=hrel;have hbwr:=hb3w.out.trans (hbr.mono hb3w.out.size);by_cases hlt:m<c.parents.length
    · have hIr:=hPb.out _ hbwr
      obtain⟨ib,io,hIA,_,hbl,hc1⟩:=hIr.dig hpo m hlt;subst hIA;obtain⟨d,hd⟩:∃ d,d=c.parents[m]:=⟨_,rfl⟩;have hdl':d.length=32:=by rw[hd];exact hpo _ (lD _)
      obtain⟨j,y,hj,hy⟩:=hpar.out d (by rw[hd];exact lD _);rw[<-hd] at hc1;have i1:(0:Int)<=(m:Int):=by omega
      have i2:(m:Int)<(c.parents.length:Int):=by omega
      have hMm:=iD (Qo hj);have hMu:=iD (Qp hN hj);rw[hy] at hMm hMu;replace hbr:=iD hbr;replace hbwr:=iD hbwr;replace hc1:=iD hc1;replace hd:=iD hd;clear hIr;go_wp2_with (first
        | (refine l2 rfl 47 (.tmp 42) rfl ib (io+m*32) rfl (d.map B) _ (fun j v hv=>hc1.out j v hv) underlying47 rfl (Za hdl') ?_;go_frame)
        | (refine Zo rfl 47 (.tmp 13) (.tmp 43) rfl wr.heap.size (d.map B) rfl rfl 47 Z3 (Blk.new_at rfl) (by simp[hdl',Z3]) (Za hdl') (Yk _) ?_
           generalize hw1:lX _ wr.heap.size (d.map B).toArray=w9;have hB9:Blk w9 wr.heap.size 47 (d.map B):=by
             rw[<-hw1];exact (Blk.new_at (w:=wr) (t:=47) (cs:=Z3) rfl).setRow_same (d.map B)
           have hb9:Below wr.heap.size wr w9:=by
             rw[<-hw1];exact below_setRow ((lL wr.heap.size wr).alloc (lC _) (.cells Z3.toArray 47)) (lC _) (d.map B).toArray
           clear hw1;have hb39:=hbr.out.trans (hb9.mono hbr.out.size);have hP9:=hP3.out.below hb39 hP3.out.lt;have p1:w9.cell? ⟨w.heap.size,1,none⟩=some (.map (some b)):=hP9.cell 1;have hrun9:=iD ((hMb.out _ (hb3w.out.trans (hb39.mono hb3w.out.size))).look_some Xz underlying26 hMk.out (Jm d hdl') hMm.out hMu.out true);replace hB9:=iD hB9;replace hb39:=iD hb39;clear hP9 hb9;go_frame)
        | (refine Y0 rfl 47 (.tmp 13) rfl wr.heap.size rfl 47 (d.map B) hB9.out _ underlying47 rfl (Za hdl') ?_)
        | (refine Ke rfl (.tuple #[.int .i64 (j:Int),.bool true]) (Jk 26 (.tmp 46) (.tmp 47) true rfl _ _ _ rfl rfl hrun9.out) ?_;go_frame)
        | fail)
      exact⟨⟨m+1,by omega,by go_num,hb39.out⟩,by simp[intOf];omega⟩
    · have hmt:m=c.parents.length:=by omega
      subst hmt;have hP4:=hP3.out.below hbr hP3.out.lt;have hC4:=hC3.out.below hbr hC3.out.lt;have p0:wr.cell? ⟨w.heap.size,0,none⟩=some (.slice NA N.length ncap):=hP4.cell 0;have p1:wr.cell? ⟨w.heap.size,1,none⟩=some (.map (some b)):=hP4.cell 1;have q0:wr.cell? ⟨w.heap.size+1,0,none⟩=some (.slice PA c.parents.length pc):=hC4.cell 0;have hcall:=hbn.out wr hbwr;replace hbr:=iD hbr;replace hbwr:=iD hbwr;replace hcall:=iD hcall;clear hP4 hC4;go_wp2_with fail;refine hcall.out.mono ?_;rintro e w4 ⟨sb,rfl,hS4,hsb,hb4⟩;have hb34:=hbr.out.trans (hb4.mono hbr.out.size);have hC4:=hC3.out.below hb34 hC3.out.lt;have q3':w4.cell? ⟨w.heap.size+1,3,none⟩=some (.slice OA c.ops.length oc):=hC4.cell 3;have q34:∀ o,(w4.alloc o).cell? ⟨w.heap.size+1,3,none⟩=some (.slice OA c.ops.length oc):=fun o=>(hC4.alloc o).cell 3;replace hS4:=iD hS4;replace hb4:=iD hb4;replace hb34:=iD hb34;clear hcall hC4 p0 p1 q0;go_wp2_with fail;generalize hW5:lH w4 _=w5;have hb45:Below w4.heap.size w4 w5:=by rw[<-hW5];exact bL
      have hV5:Blk w5 w4.heap.size 150 [.slice NA N.length ncap,.map (some b),.slice (some ⟨sb,0,none⟩) N.length N.length]:=by rw[<-hW5];exact Blk.new_at (cs:=[.slice NA N.length ncap,.map (some b),.slice (some ⟨sb,0,none⟩) N.length N.length]) rfl
      have hS5:=hS4.out.below hb45 hS4.out.lt;have hb35:=hb34.out.trans (hb45.mono hb34.out.size);clear hW5 q34 q3';replace hS5:=iD hS5;replace hV5:=iD hV5;replace hb35:=iD hb35;clear hb45 hS4 hb4 hb34;go_loopw [62] (fun i wr=>∃ m:Nat,m<=c.ops.length/\i=.int .i64 (m:Int)/\Below w5.heap.size w5 wr) (fun i _=>c.ops.length - (intOf i).toNat)
      case atStart=>exact⟨0,lK _,rfl,lL _ _⟩
      case round =>
        obtain⟨m,hm,rfl,hbo⟩:=hrel;have hbwo:=hb3w.out.trans ((hb35.out.trans (hbo.mono hb35.out.size)).mono hb3w.out.size);by_cases hlt:m<c.ops.length
        · obtain⟨b',o,hOA,_,hbl,hcells⟩:=(hOb.out _ hbwo).op hof.out m hlt
          subst hOA;obtain⟨x,hx⟩:∃ x,x=c.ops[m]:=⟨_,rfl⟩;rw[<-hx] at hcells;have hf:OpFit x:=by rw[hx];exact hof.out _ (lD _)
          have hfa:=hfar.out m x (by rw[hx];exact lB hlt);have i1:(0:Int)<=(m:Int):=by omega
          have i2:(m:Int)<(c.ops.length:Int):=by omega
          replace hcells:=iD hcells;replace hx:=iD hx;replace hbo:=iD hbo;replace hbwo:=iD hbwo;replace hf:=iD hf;replace hfa:=iD hfa;go_upto_region 18 with (first
            | (refine l2 rfl 178 (.tmp 64) rfl b' (o+m*37) rfl (Z9 x) _ (fun j v hv=>hcells.out j v hv) underlying178 rfl (Qh hf.out) ?_;go_frame)
            | (refine Zo rfl 178 (.tmp 18) (.tmp 65) rfl wr.heap.size (Z9 x) rfl rfl 178 Jt (Blk.new_at rfl) (by rw[Ug hf.out];rfl) (Qh hf.out) (Uj _) ?_;go_frame)
            | fail)
          generalize hw1:lX _ wr.heap.size (Z9 x).toArray=w9;have hB9:Blk w9 wr.heap.size 178 (Z9 x):=by
            rw[<-hw1];exact (Blk.new_at (w:=wr) (t:=178) (cs:=Jt) rfl).setRow_same (Z9 x)
          have hb9:Below wr.heap.size wr w9:=by
            rw[<-hw1];exact below_setRow ((lL wr.heap.size wr).alloc (lC _) (.cells Jt.toArray 178)) (lC _) (Z9 x).toArray
          clear hw1;obtain⟨_,_,q2,q35,_⟩:=Jj hB9 hf.out;have hb59:=hbo.out.trans (hb9.mono hbo.out.size);cases hown:x.at_.own with
          | true =>
            rw[hown] at q2;replace hB9:=iD hB9;replace hb59:=iD hb59;replace hown:=iD hown;go_wp2_with fail;exact⟨⟨m+1,by omega,by go_num,hb59.out⟩,by simp[intOf];omega⟩
          | false =>
            rw[hown] at q2;by_cases hn:0<x.at_.n
            · obtain⟨k,m',y,cc,z,h1,h2,h3,h4,h5,h6,h7⟩:=hfa.out hown hn
              have gn:decide ((0:Int)<x.at_.n)=true:=decide_eq_true hn;have hV9:=hV5.out.below hb59 hV5.out.lt;have v0:w9.cell? ⟨w4.heap.size,0,none⟩=some (.slice NA N.length ncap):=hV9.cell 0;have v1:w9.cell? ⟨w4.heap.size,1,none⟩=some (.map (some b)):=hV9.cell 1;have v2:w9.cell? ⟨w4.heap.size,2,none⟩=some (.slice (some ⟨sb,0,none⟩) N.length N.length):=hV9.cell 2;have hcall:=hfi.out x.at_ hf.out.com k m' y cc z h1 h2 h3 h4 h5 h6 h7 sb w9 (hb3w.out.trans ((hb35.out.trans (hb59.mono hb35.out.size)).mono hb3w.out.size)) (hS5.out.below hb59 hS5.out.lt);have hrs:=Xe hf.out.com;unfold Zl at hcall;replace hB9:=iD hB9;replace hb59:=iD hb59;replace hown:=iD hown;replace hcall:=iD hcall;replace hrs:=iD hrs;clear h1 h2 h3 h4 h5 h6 h7 hn hfa hV9;go_wp2_with (first | (refine Z52 rfl 158 (.tmp 79) rfl wr.heap.size 2 rfl 178 (Z9 x) (Z1 x.at_) [B x.byte] hB9.out rfl _ underlying158 rfl hrs.out ?_) | fail);refine hcall.out.mono ?_;rintro e w10 ⟨rfl,hb10⟩;have hb510:=hb59.out.trans (hb10.mono hb59.out.size);clear hcall;go_wp2_with fail;exact⟨⟨m+1,by omega,by go_num,hb510⟩,by simp[intOf];omega⟩
            · have gn:decide ((0:Int)<x.at_.n)=false:=decide_eq_false hn
              replace hB9:=iD hB9;replace hb59:=iD hb59;replace hown:=iD hown;go_wp2_with fail;exact⟨⟨m+1,by omega,by go_num,hb59.out⟩,by simp[intOf];omega⟩
        · have hmt:m=c.ops.length:=by omega
          subst hmt;have hb3o:=hb35.out.trans (hbo.mono hb35.out.size);have hDr:=hD3.out.below hb3o hD3.out.lt;have hRr:=hR3.out.below hb3o hR3.out.lt;replace hDr:=iD hDr;replace hRr:=iD hRr;replace hbo:=iD hbo;replace hbwo:=iD hbwo;replace hb3o:=iD hb3o;go_wp2_with (first
            | (refine Y0 rfl 47 (.tmp 8) rfl w2.heap.size rfl 47 (ds.map B) hDr.out _ underlying47 rfl (Za hdl) ?_)
            | (refine Zo rfl 47 (.tmp 6) (.tmp 86) rfl (w.heap.size+2) (ds.map B) rfl rfl 47 Z3 hRr.out (by simp[hdl,Z3]) (Za hdl) (Yk _) ?_)
            | fail)
          exact Ub rfl (w.heap.size+2) 47 (ds.map B) _ (.int .i64 0) rfl rfl (hRr.out.setRow_same _) underlying47 rfl (Za hdl) rfl ⟨rfl,below_setRow hbwo.out (by omega) _⟩
end
end Go.Proofs.YtfdimggmljkkbaaGreatDoor
