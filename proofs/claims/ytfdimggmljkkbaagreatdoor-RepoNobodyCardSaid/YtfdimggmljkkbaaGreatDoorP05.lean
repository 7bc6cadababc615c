import Derived.Test.YtfdimggmljkkbaaGreatDoorP04
open Bool renaming and_eq_true → lE
open List renaming getElem?_eq_some_iff → lB, length_cons → lC, getElem?_eq_getElem → lF, getElem?_append_left → lG, countP_cons → lH, mem_append → lI, length_take → lJ, getElem?_append_right → lK
open Nat renaming le_refl → lD
open Option.some renaming inj → lA
namespace Go.Proofs.YtfdimggmljkkbaaGreatDoor
section
set_option maxRecDepth 100000
set_option maxHeartbeats 1000000
open Go.Lib renaming hid → iD
open Go.Proofs.Tryz
open Go.RowKit
theorem Zg0(r:PRef)(hr:r.com.length=32)(h0:-9223372036854775808<=r.n)(h1:r.n<=9223372036854775807)(w:World):Calls Tryz.prog 219 #[Zl r] w fun e w'=>e=.returned (.bool (Ji r))/\Below w.heap.size w w':=by
 have hsr:(Tryz.prog.info? 158).map (·.size)=some (Z1 r).length:=by
  have e:(Z1 r).length=34:=by simp[Z1,hr]
  have e2:(Tryz.prog.info? 158).map (·.size)=some 34:=by kernel_rfl
  rw[e2,e]
 have hcr:=fun W=>Z4z r hr W;have hok:Ji r=if r.own then (r.com == X2 && decide (0<r.n)) else if r.root then true else (decide (0<r.n) && decide (r.n<=2000)):=rfl;obtain⟨ok,ho⟩:∃ ok,ok=Ji r:=⟨_,rfl⟩;rw[<-ho] at hok ⊢;replace hsr:=iD hsr;replace hr:=iD hr;replace ho:=iD ho;replace hok:=iD hok;replace hcr:=iD hcr;have f0:(Z1 r)[0]?=some (.bool r.own):=rfl;have f33:(Z1 r)[33]?=some (.int .i64 r.n):=by simp[Z1,hr.out]
 have hdp:(Z1 r).drop 1=r.com.map B++[.int .i64 r.n]:=rfl;have hsd:(Tryz.prog.info? 47).map (·.size)=some (r.com.map B).length:=by rw[List.length_map,hr.out];kernel_rfl
 replace hdp:=iD hdp;replace hsd:=iD hsd;have hzl:X2.length=32:=by decide
 replace hzl:=iD hzl;unfold Zl;go_enter func219,ntmps219;go_wp2_with (first
  | (refine K3 rfl 47 (.tmp 6) rfl w.heap.size 1 rfl 158 (Z1 r) (r.com.map B) _ (Blk.new_at rfl) hdp.out _ underlying47 rfl hsd.out ?_)
  | (refine O4 rfl (.tmp 7) (.tmp 8) _ rfl r.com X2 rfl rfl hr.out hzl.out ?_)
  | (refine Y0 rfl 158 (.tmp 1) rfl w.heap.size rfl 158 (Z1 r) (Blk.new_at rfl) _ underlying158 rfl hsr.out ?_)
  | fail)
 ·go_ret;refine⟨?_,bL⟩;rw[hok.out]
  simp_all
 ·go_ret;refine⟨?_,bL⟩;rw[hok.out]
  simp_all
 ·refine (hcr.out _).mono ?_;rintro e W ⟨rfl,hbW⟩;have hblk:W.heap[w.heap.size]?=some (.cells (Z1 r).toArray 158):=by
   rw[hbW.block _ (by simp)];exact Blk.new_at (w:=w) (t:=158) (cs:=Z1 r) rfl
  have hW33:W.cell? ⟨w.heap.size,33,none⟩=some (.int .i64 r.n):=by simp[World.cell?,hblk,f33]
  have hbw:=((Below.refl w.heap.size w).alloc (lD _) (.cells (Z1 r).toArray 158)).trans (hbW.mono (by simp));replace hbw:=iD hbw;clear hbW;go_wp2;all_goals (go_ret;refine⟨?_,hbw.out⟩;rw[hok.out];simp_all;try omega)
end
section
open Go.RowKit
def Js(k:Nat):PRef:=⟨true,X2,(k:Int)⟩
end
section
open Go.RowKit
def U6(a b:PRef):Bool:=a.own == b.own && a.com == b.com && a.n == b.n
structure FN where
 name:PRef
 b:UInt8
 gone:Bool
 left:List Nat
 right:List Nat
structure FT where
 nodes:List FN
 added:List (Str × Nat)
 seen:Int
def J1:FT:=⟨[⟨Z8,0,true,[],[]⟩],[],0⟩
def U7(a b:PRef):Int:=if a.com=b.com then a.n - b.n else if Ze a.com b.com then -1 else 1
def Us(T:FT)(id:Str)(r:PRef):Option Nat :=
 let r':PRef:=if r.own then ⟨false,id,r.n⟩ else r
 if U6 r' Z8 then some 0 else T.nodes.findIdx? (fun x=>U6 x.name r')
def bsL(nms:List PRef)(nm:PRef):Nat->Nat->Nat->Nat
 | 0,i,_=>i
 | f+1,i,j=>if i<j then
   if U7 (nms.getD ((i+j) / 2) Z8) nm<0 then bsL nms nm f ((i+j) / 2+1) j else bsL nms nm f i ((i+j) / 2)
  else i
def Oq(T:FT)(ks:List Nat)(nm:PRef):Nat:=bsL (ks.map fun k=>((T.nodes[k]?).map (·.name)).getD Z8) nm (ks.length+1) 0 ks.length
def Xb(ks:List Nat)(k x:Nat):List Nat:=ks.take k++x :: ks.drop k
def Xm(l:List FN)(k:Nat)(f:FN->FN):List FN:=l.modify k f
def Q9(T:FT)(id:Str)(i:Nat)(x:POp):FT :=
 match Us T id x.at_ with
 | none=>T
 | some k =>
  let nd:=T.nodes.getD k ⟨Z8,0,true,[],[]⟩
  if x.kind=2 then ⟨Xm T.nodes k (fun y=>{ y with gone:=true }),T.added,if nd.gone then T.seen else T.seen - 1⟩
  else
   let m:=T.nodes.length
   let nm:PRef:=⟨false,id,((i+1:Nat):Int)⟩
   let ks:=if x.left then nd.left else nd.right
   let ks':=Xb ks (Oq T ks nm) m
   ⟨Xm T.nodes k (fun y=>if x.left then { y with left:=ks' } else { y with right:=ks' })++[⟨nm,x.byte,false,[],[]⟩],T.added,T.seen+1⟩
def Vc(T:FT)(id:Str):Nat->List POp->FT
 | _,[]=>T
 | i,x :: l=>Vc (Q9 T id i x) id (i+1) l
def U8(T:FT)(id:Str)(l:List POp):FT:=Vc { T with added:=T.added++[(id,l.length)] } id 0 l
def Zr(l:List FN):Nat->Nat->List Nat
 | 0,_=>[]
 | f+1,k=>match l[k]? with
  | none=>[]
  | some nd=>nd.left.flatMap (Zr l f)++k :: nd.right.flatMap (Zr l f)
def Y2(T:FT):List Nat:=(Zr T.nodes T.nodes.length 0).filter fun k=>!((T.nodes[k]?).map (·.gone)).getD true
def Xw(T:FT):Str:=(Y2 T).map fun k=>((T.nodes[k]?).map (·.b)).getD 0
def Ja(l:List FN):Nat->Nat->Nat
 | 0,k=>k
 | f+1,k=>match l[k]? with
  | some nd=>match nd.left with
   | c :: _=>Ja l f c
   | []=>k
  | none=>k
def Kn(T:FT)(n:Nat):PRef × Bool :=
 let a:=if n=0 then 0 else (Y2 T).getD (n - 1) 0
 match T.nodes[a]? with
 | none=>(Z8,false)
 | some nd=>match nd.right with
  | []=>(nd.name,false)
  | c :: _=>(((T.nodes[Ja T.nodes T.nodes.length c]?).map (·.name)).getD Z8,true)
end
section
open Go.RowKit
theorem Z0g{a b:PRef}:U6 a b=true ↔ a=b:=by
 obtain⟨a1,a2,a3⟩:=a;obtain⟨b1,b2,b3⟩:=b;simp[U6,lE,and_assoc]
theorem Z6b{r:PRef}:r.root=true ↔ r=Z8:=by
 obtain⟨a1,a2,a3⟩:=r;cases a1 <;> simp[PRef.root,Z8]
def Zd(nd:FN)(s:Bool):List Nat:=if s then nd.left else nd.right
def Ya(T:FT)(k:Nat):PRef:=((T.nodes[k]?).map (·.name)).getD Z8
def Qk(l:List FN):Nat:=l.countP fun y=>!y.gone
theorem Vd:∀ (l:List FN) (k:Nat) (f:FN->FN) (j:Nat),(Xm l k f)[j]?=if j=k then (l[j]?).map f else l[j]?
 | [],k,f,j=>by
  have : Xm [] k f=[]:=by cases k <;> rfl
  rw[this];simp
 | a :: l,0,f,0=>by simp[show Xm (a :: l) 0 f=f a :: l from rfl]
 | a :: l,0,f,j+1=>by simp[show Xm (a :: l) 0 f=f a :: l from rfl]
 | a :: l,k+1,f,0=>by simp[show Xm (a :: l) (k+1) f=a :: Xm l k f from rfl]
 | a :: l,k+1,f,j+1=>by
  rw[show Xm (a :: l) (k+1) f=a :: Xm l k f from rfl];simpa using Vd l k f j
theorem Jb:∀ (l:List FN) (k:Nat) (f:FN->FN),(Xm l k f).length=l.length
 | [],k,f=>by
  have : Xm [] k f=[]:=by cases k <;> rfl
  rw[this]
 | a :: l,0,f=>by simp[show Xm (a :: l) 0 f=f a :: l from rfl]
 | a :: l,k+1,f=>by
  rw[show Xm (a :: l) (k+1) f=a :: Xm l k f from rfl,lC,Jb l k f,lC]
theorem Z6c:∀ (l:List FN) (k:Nat) (f:FN->FN) (nd:FN),l[k]?=some nd->Qk (Xm l k f)+(if nd.gone then 0 else 1)=Qk l+(if (f nd).gone then 0 else 1)
 | [],k,f,nd,h=>by simp at h
 | a :: l,0,f,nd,h=>by
  obtain rfl:a=nd:=by simpa using h
  rw[show Xm (a :: l) 0 f=f a :: l from rfl];unfold Qk;simp only[lH];cases a.gone <;> cases (f a).gone <;> simp <;> omega
 | a :: l,k+1,f,nd,h=>by
  have h1:=Z6c l k f nd (by simpa using h);rw[show Xm (a :: l) (k+1) f=a :: Xm l k f from rfl];unfold Qk at h1 ⊢;simp only[lH];omega
theorem Zl7(l:List FN):Qk l<=l.length:=List.countP_le_length
structure FTok (T:FT):Prop where
 root:∃ nd,T.nodes[0]?=some nd/\nd.name=Z8/\nd.gone=true
 name:∀ (k:Nat) (nd:FN),T.nodes[k]?=some nd->0<k->nd.name.own=false/\nd.name.com.length=32/\1<=nd.name.n/\nd.name.n<=2000/\∃ n,(nd.name.com,n) ∈ T.added
 inj:∀ (i j:Nat) (x y:FN),T.nodes[i]?=some x->T.nodes[j]?=some y->x.name=y.name->i=j
 kids:∀ (k:Nat) (nd:FN) (s:Bool) (c:Nat),T.nodes[k]?=some nd->c ∈ Zd nd s->k<c/\c<T.nodes.length
 slen:∀ (k:Nat) (nd:FN) (s:Bool),T.nodes[k]?=some nd->(Zd nd s).length<T.nodes.length
 par:∀ (i j:Nat) (x y:FN) (s s':Bool) (c:Nat),T.nodes[i]?=some x->T.nodes[j]?=some y->c ∈ Zd x s->c ∈ Zd y s'->i=j/\s=s'
 once:∀ (k:Nat) (nd:FN) (s:Bool),T.nodes[k]?=some nd->(Zd nd s).Nodup
 add:∀ p ∈ T.added,p.1.length=32/\p.2<=2000
 nodup:(T.added.map Prod.fst).Nodup
 seen:T.seen=Qk T.nodes
theorem FTok.new:FTok J1 where
 root:=⟨_,rfl,rfl,rfl⟩
 name:=fun k nd h hk=>by
  rcases k with _ | k
  ·omega
  ·simp[J1] at h
 inj:=fun i j x y hi hj _=>by
  rcases i with _ | i
  ·rcases j with _ | j
   ·rfl
   ·simp[J1] at hj
  ·simp[J1] at hi
 kids:=fun k nd s c h hc=>by
  rcases k with _ | k
  ·obtain rfl:_=nd:=by simpa[J1] using h
   cases s <;> simp[Zd] at hc
  ·simp[J1] at h
 slen:=fun k nd s h=>by
  rcases k with _ | k
  ·obtain rfl:_=nd:=by simpa[J1] using h
   cases s <;> simp[Zd,J1]
  ·simp[J1] at h
 par:=fun i j x y s s' c hi _ hc _=>by
  rcases i with _ | i
  ·obtain rfl:_=x:=by simpa[J1] using hi
   cases s <;> simp[Zd] at hc
  ·simp[J1] at hi
 once:=fun k nd s h=>by
  rcases k with _ | k
  ·obtain rfl:_=nd:=by simpa[J1] using h
   cases s <;> simp[Zd]
  ·simp[J1] at h
 add:=fun p hp=>by simp[J1] at hp
 nodup:=by simp[J1]
 seen:=by simp[J1,Qk]
theorem FTok.com{T:FT}(h:FTok T){k:Nat}{nd:FN}(hk:T.nodes[k]?=some nd):nd.name.com.length=32/\nd.name.own=false/\0<=nd.name.n/\nd.name.n<=2000/\(0<k->nd.name ≠ Z8):=by
 rcases k with _ | k
 ·obtain⟨r,h1,h2,_⟩:=h.root;rw[h1] at hk;obtain rfl:=lA hk;rw[h2];exact⟨rfl,rfl,by decide,by decide,fun h=>by omega⟩
 ·obtain⟨h1,h2,h3,h4,_⟩:=h.name _ nd hk (by omega);refine⟨h2,h1,by omega,h4,fun _ e=>?_⟩;rw[e] at h3;simp[Z8] at h3
def Qa(id:Str)(r:PRef):PRef:=if r.own then ⟨false,id,r.n⟩ else r
theorem Zl8(T:FT){id:Str}{r:PRef}(h:Qa id r=Z8):Us T id r=some 0:=by
 unfold Us;show (if U6 (Qa id r) Z8=true then some 0 else _)=_;rw[if_pos (Z0g.2 h)]
theorem Zl9{T:FT}(hT:FTok T){id:Str}{r:PRef}{k:Nat}{nd:FN}(hk:T.nodes[k]?=some nd)(hn:nd.name=Qa id r)(hr:Qa id r ≠ Z8):Us T id r=some k:=by
 unfold Us;show (if U6 (Qa id r) Z8=true then some 0 else T.nodes.findIdx? (fun x=>U6 x.name (Qa id r)))=_;rw[if_neg (fun e=>hr (Z0g.1 e))];obtain⟨hl,hg⟩:=lB.1 hk;rw[List.findIdx?_eq_some_iff_getElem];refine⟨hl,by rw[hg,hn];exact Z0g.2 rfl,fun j hj e=>?_⟩;have:=hT.inj j k _ nd (lF (by omega)) hk (by rw[hn];exact Z0g.1 e);omega
theorem Z3m{ks:List Nat}{p x c:Nat}(h:c ∈ Xb ks p x):c ∈ ks ∨ c=x:=by
 unfold Xb at h;rcases lI.1 h with h | h
 ·exact .inl (List.mem_of_mem_take h)
 ·rcases List.mem_cons.1 h with h | h
  ·exact .inr h
  ·exact .inl (List.mem_of_mem_drop h)
theorem Z6d(ks:List Nat)(p x:Nat):(Xb ks p x).length=ks.length+1:=by
 unfold Xb;simp only[List.length_append,lJ,lC,List.length_drop];omega
def Jy(T:FT)(k:Nat)(nd:FN):FT:=⟨Xm T.nodes k (fun y=>{ y with gone:=true }),T.added,if nd.gone then T.seen else T.seen - 1⟩
def Ko(left:Bool)(ks:List Nat)(y:FN):FN:=if left then { y with left:=ks } else { y with right:=ks }
def Jo(T:FT)(k:Nat)(left:Bool)(ks:List Nat)(nm:PRef)(b:UInt8):FT:=⟨Xm T.nodes k (Ko left ks)++[⟨nm,b,false,[],[]⟩],T.added,T.seen+1⟩
theorem Ve(left:Bool)(ks:List Nat)(y:FN):(Ko left ks y).name=y.name/\(Ko left ks y).gone=y.gone/\(Ko left ks y).b=y.b:=by
 cases left <;> exact⟨rfl,rfl,rfl⟩
theorem Z0h(left:Bool)(ks:List Nat)(y:FN)(s:Bool):Zd (Ko left ks y) s=if s=left then ks else Zd y s:=by
 cases left <;> cases s <;> rfl
theorem Vf{T:FT}{k:Nat}{nd0:FN}{j:Nat}{nd:FN}(h:(Jy T k nd0).nodes[j]?=some nd):∃ y,T.nodes[j]?=some y/\nd.name=y.name/\nd.left=y.left/\nd.right=y.right/\nd.b=y.b/\nd.gone=(y.gone || j == k):=by
 unfold Jy at h;dsimp only at h;rw[Vd] at h;by_cases hj:j=k
 ·rw[if_pos hj] at h;cases hy:T.nodes[j]? with
  | none=>simp[hy] at h
  | some y =>
   rw[hy] at h;obtain rfl:_=nd:=by simpa using h
   exact⟨y,rfl,rfl,rfl,rfl,rfl,by simp[hj]⟩
 ·rw[if_neg hj] at h;exact⟨nd,h,rfl,rfl,rfl,rfl,by simp[hj]⟩
theorem Vg{T:FT}{k:Nat}{left:Bool}{ks:List Nat}{nm:PRef}{b:UInt8}{j:Nat}{nd:FN}(h:(Jo T k left ks nm b).nodes[j]?=some nd) :
  (j=T.nodes.length/\nd=⟨nm,b,false,[],[]⟩) ∨ (j<T.nodes.length/\∃ y,T.nodes[j]?=some y/\nd=if j=k then Ko left ks y else y):=by
 unfold Jo at h;dsimp only at h;by_cases hj:j<T.nodes.length
 ·right;rw[lG (by rw[Jb];exact hj),Vd] at h;refine⟨hj,?_⟩;have hy:T.nodes[j]?=some T.nodes[j]:=lF hj;refine⟨T.nodes[j],hy,?_⟩;rw[hy] at h;split at h
  ·next e=>rw[if_pos e];exact (by simpa using h:Ko left ks T.nodes[j]=nd).symm
  ·next e=>rw[if_neg e];exact (lA h).symm
 ·left;rw[lK (by rw[Jb];omega),Jb] at h;obtain⟨d,hd⟩:∃ d,j - T.nodes.length=d:=⟨_,rfl⟩;rw[hd] at h;rcases d with _ | d
  ·exact⟨by omega,(by simpa using h:_=nd).symm⟩
  ·simp at h
theorem Z3n(T:FT)(k:Nat)(left:Bool)(ks:List Nat)(nm:PRef)(b:UInt8):(Jo T k left ks nm b).nodes.length=T.nodes.length+1:=by
 unfold Jo;simp[Jb]
theorem FTok.del{T:FT}(h:FTok T){k:Nat}{nd:FN}(hk:T.nodes[k]?=some nd):FTok (Jy T k nd) where
 root:=by
  obtain⟨r,h1,h2,h3⟩:=h.root;have h4:(Jy T k nd).nodes[0]?=if 0=k then (T.nodes[0]?).map (fun y=>{ y with gone:=true }) else T.nodes[0]?:=Vd _ _ _ _;rw[h1] at h4;split at h4
  ·exact⟨_,h4,h2,rfl⟩
  ·exact⟨_,h4,h2,h3⟩
 name:=fun j x hx hj=>by
  obtain⟨y,hy,e,_⟩:=Vf hx;rw[e];exact h.name j y hy hj
 inj:=fun i j x y hi hj e=>by
  obtain⟨x',hx,ex,_⟩:=Vf hi;obtain⟨y',hy,ey,_⟩:=Vf hj;exact h.inj i j x' y' hx hy (by rw[<-ex,<-ey,e])
 kids:=fun j x s c hx hc=>by
  obtain⟨y,hy,_,el,er,_⟩:=Vf hx;have : Zd x s=Zd y s:=by cases s <;> simp[Zd,el,er]
  rw[this] at hc;have:=h.kids j y s c hy hc;exact⟨this.1,by show c<(Xm _ _ _).length;rw[Jb];exact this.2⟩
 slen:=fun j x s hx=>by
  obtain⟨y,hy,_,el,er,_⟩:=Vf hx;have : Zd x s=Zd y s:=by cases s <;> simp[Zd,el,er]
  rw[this];show _<(Xm _ _ _).length;rw[Jb];exact h.slen j y s hy
 par:=fun i j x y s s' c hi hj hc hc'=>by
  obtain⟨x',hx,_,xl,xr,_⟩:=Vf hi;obtain⟨y',hy,_,yl,yr,_⟩:=Vf hj;refine h.par i j x' y' s s' c hx hy ?_ ?_
  ·cases s <;> simpa[Zd,xl,xr] using hc
  ·cases s' <;> simpa[Zd,yl,yr] using hc'
 once:=fun j x s hx=>by
  obtain⟨y,hy,_,el,er,_⟩:=Vf hx;have : Zd x s=Zd y s:=by cases s <;> simp[Zd,el,er]
  rw[this];exact h.once j y s hy
 add:=h.add
 nodup:=h.nodup
 seen:=by
  have h1:=Z6c T.nodes k (fun y=>{ y with gone:=true }) nd hk;have h2:=h.seen;unfold Jy;dsimp only at h1 ⊢;cases hg:nd.gone <;> simp[hg] at h1 ⊢ <;> omega
theorem FTok.ins{T:FT}(h:FTok T){k:Nat}{nd:FN}(hk:T.nodes[k]?=some nd)(left:Bool)(p:Nat)(nm:PRef)(b:UInt8)(hnm:nm.own=false/\nm.com.length=32/\1<=nm.n/\nm.n<=2000/\∃ n,(nm.com,n) ∈ T.added)
  (hnew:∀ (j:Nat) (x:FN),T.nodes[j]?=some x->x.name ≠ nm):FTok (Jo T k left (Xb (Zd nd left) p T.nodes.length) nm b) where
 root:=by
  obtain⟨r,h1,h2,h3⟩:=h.root;obtain⟨h0,_⟩:=lB.1 h1;have h4:(Jo T k left (Xb (Zd nd left) p T.nodes.length) nm b).nodes[0]?=if 0=k then (T.nodes[0]?).map (Ko left (Xb (Zd nd left) p T.nodes.length)) else T.nodes[0]?:=by
   unfold Jo;dsimp only;rw[lG (by rw[Jb];exact h0),Vd]
  rw[h1] at h4;split at h4
  ·exact⟨_,h4,by rw[(Ve _ _ _).1,h2],by rw[(Ve _ _ _).2.1,h3]⟩
  ·exact⟨_,h4,h2,h3⟩
 name:=fun j x hx hj=>by
  rcases Vg hx with ⟨_,rfl⟩ | ⟨_,y,hy,rfl⟩
  ·exact hnm
  ·split
   ·rw[(Ve _ _ _).1];exact h.name j y hy hj
   ·exact h.name j y hy hj
 inj:=fun i j x y hi hj e=>by
  have hn:∀ (q:Nat) (z:FN),(if q=k then Ko left (Xb (Zd nd left) p T.nodes.length) z else z).name=z.name:=fun q z=>by
   split
   ·exact (Ve _ _ _).1
   ·rfl
  rcases Vg hi with ⟨e1,rfl⟩ | ⟨_,x',hx,rfl⟩ <;> rcases Vg hj with ⟨e2,rfl⟩ | ⟨_,y',hy,rfl⟩
  ·omega
  ·rw[hn] at e;exact absurd e.symm (hnew j y' hy)
  ·rw[hn] at e;exact absurd e (hnew i x' hx)
  ·rw[hn,hn] at e;exact h.inj i j x' y' hx hy e
 kids:=fun j x s c hx hc=>by
  rw[Z3n];rcases Vg hx with ⟨_,rfl⟩ | ⟨hj,y,hy,rfl⟩
  ·cases s <;> simp[Zd] at hc
  ·split at hc
   ·next e =>
    subst e;rw[hk] at hy;obtain rfl:=lA hy;rw[Z0h] at hc;split at hc
    ·next es =>
     subst es;rcases Z3m hc with hc | hc
     ·have:=h.kids j nd s c hk hc;omega
     ·omega
    ·have:=h.kids j nd s c hk hc;omega
   ·have:=h.kids j y s c hy hc;omega
 slen:=fun j x s hx=>by
  rw[Z3n];rcases Vg hx with ⟨_,rfl⟩ | ⟨hj,y,hy,rfl⟩
  ·cases s <;> simp[Zd]
  ·split
   ·next e =>
    subst e;rw[hk] at hy;obtain rfl:=lA hy;rw[Z0h];split
    ·next es =>
     subst es;rw[Z6d];have:=h.slen j nd s hk;omega
    ·have:=h.slen j nd s hk;omega
   ·have:=h.slen j y s hy;omega
 par:=fun i j x y s s' c hi hj hc hc'=>by
  have key:∀ (q:Nat) (z:FN) (r:Bool),T.nodes[q]?=some z->c ∈ Zd (if q=k then Ko left (Xb (Zd nd left) p T.nodes.length) z else z) r->c ∈ Zd z r ∨ (q=k/\r=left/\c=T.nodes.length):=fun q z r hz hm=>by
   split at hm
   ·next e =>
    subst e;rw[hk] at hz;obtain rfl:=lA hz;rw[Z0h] at hm;split at hm
    ·next es =>
     subst es;rcases Z3m hm with hm | hm
     ·exact .inl hm
     ·exact .inr ⟨rfl,rfl,hm⟩
    ·exact .inl hm
   ·exact .inl hm
  rcases Vg hi with ⟨_,rfl⟩ | ⟨_,x',hx,rfl⟩
  ·cases s <;> simp[Zd] at hc
  rcases Vg hj with ⟨_,rfl⟩ | ⟨_,y',hy,rfl⟩
  ·cases s' <;> simp[Zd] at hc'
  rcases key i x' s hx hc with h1 | ⟨e1,e2,e3⟩ <;> rcases key j y' s' hy hc' with h2 | ⟨f1,f2,f3⟩
  ·exact h.par i j x' y' s s' c hx hy h1 h2
  ·have:=(h.kids i x' s c hx h1).2;omega
  ·have:=(h.kids j y' s' c hy h2).2;omega
  ·exact⟨by omega,by rw[e2,f2]⟩
 once:=fun j x s hx=>by
  rcases Vg hx with ⟨_,rfl⟩ | ⟨hj,y,hy,rfl⟩
  ·cases s <;> simp[Zd]
  ·split
   ·next e =>
    subst e;rw[hk] at hy;obtain rfl:=lA hy;rw[Z0h];split
    ·next es =>
     subst es;unfold Xb;rw[List.perm_middle.nodup_iff,List.take_append_drop];exact List.nodup_cons.2 ⟨fun hm=>by have:=(h.kids j nd s _ hk hm).2;omega,h.once j nd s hk⟩
    ·exact h.once j nd s hk
   ·exact h.once j y s hy
 add:=h.add
 nodup:=h.nodup
 seen:=by
  have h1:=Z6c T.nodes k (Ko left (Xb (Zd nd left) p T.nodes.length)) nd hk;rw[(Ve _ _ _).2.1] at h1;have h2:=h.seen;have h3:Qk (Jo T k left (Xb (Zd nd left) p T.nodes.length) nm b).nodes=Qk (Xm T.nodes k (Ko left (Xb (Zd nd left) p T.nodes.length)))+1:=by
   unfold Qk Jo;dsimp only;rw[List.countP_append];rfl
  rw[h3];show T.seen+1=_;omega
theorem Zb7{T:FT}{id:Str}{i:Nat}{x:POp}{k:Nat}{nd:FN}(hf:Us T id x.at_=some k)(hk:T.nodes[k]?=some nd)(h:x.kind=2):Q9 T id i x=Jy T k nd:=by
 have hg:T.nodes.getD k ⟨Z8,0,true,[],[]⟩=nd:=by simp[List.getD,hk]
 unfold Q9;rw[hf];dsimp only;rw[if_pos h,hg];rfl
theorem Z6e{T:FT}{id:Str}{i:Nat}{x:POp}{k:Nat}{nd:FN}(hf:Us T id x.at_=some k)(hk:T.nodes[k]?=some nd)(h:x.kind=1) :
  Q9 T id i x=Jo T k x.left (Xb (Zd nd x.left) (Oq T (Zd nd x.left) ⟨false,id,((i+1:Nat):Int)⟩) T.nodes.length) ⟨false,id,((i+1:Nat):Int)⟩ x.byte:=by
 have hg:T.nodes.getD k ⟨Z8,0,true,[],[]⟩=nd:=by simp[List.getD,hk]
 unfold Q9;rw[hf];dsimp only;rw[if_neg (by rw[h];decide),hg];rfl
theorem Zb8(id:Str):∀ (l:List POp) (T:FT) (i:Nat) (x:POp),Vc T id i (l++[x])=Q9 (Vc T id i l) id (i+l.length) x
 | [],T,i,x=>by simp[Vc]
 | y :: l,T,i,x=>by
  simp only[List.cons_append,Vc,lC];rw[Zb8 id l _ (i+1) x]
  congr 1
  omega
structure OpsOk (T:FT) (id:Str) (l:List POp):Prop where
 idl:id.length=32
 new:∀ p ∈ T.added,p.1 ≠ id
 len:l.length<=2000
 room:T.nodes.length+l.length<=400001
 fit:OsFit l
 right:∀ i,i<l.length->Oa l ((i:Int)+1)=0
 far:∀ x ∈ l,x.at_.own=false->x.at_ ≠ Z8->∃ k nd,0<k/\T.nodes[k]?=some nd/\nd.name=x.at_
theorem Ut{l:List POp}{m:Nat}{x:POp}(he:Oa l ((m:Int)+1)=0)(hx:l[m]?=some x):Ji x.at_=true/\Ka x=0/\O9 l (m+1) x=0:=by
 obtain⟨hm,_⟩:=lB.1 hx;unfold Oa at he;rw[if_neg (by omega),show (((m:Int)+1) - 1).toNat=m by omega,hx] at he;dsimp only at he;by_cases h1:Ji x.at_=true
 ·rw[if_pos h1] at he;by_cases h2:Ka x=0
  ·rw[if_pos h2,show ((m:Int)+1).toNat=m+1 by omega] at he;exact⟨h1,h2,he⟩
  ·rw[if_neg h2] at he;exact absurd he h2
 ·rw[if_neg h1] at he;cases he
theorem Z0i{x:POp}(h:Ka x=0):(x.kind=1/\(x.left=true->x.at_.root=false)) ∨ (x.kind=2/\x.left=false/\x.byte=0/\x.at_.root=false):=by
 unfold Ka at h;by_cases h1:x.kind=1
 ·rw[if_pos h1] at h;left;refine⟨h1,fun hl=>?_⟩;rw[hl] at h;cases hr:x.at_.root with
  | false=>rfl
  | true=>rw[hr] at h;simp at h
 ·rw[if_neg h1] at h;by_cases h2:x.kind=2
  ·rw[if_pos h2] at h;right;refine⟨h2,?_⟩;cases hl:x.left <;> cases hr:x.at_.root <;> rw[hl,hr] at h <;> simp at h ⊢
   exact h
  ·rw[if_neg h2] at h;cases h
theorem Z3o{l:List POp}{m:Nat}{x:POp}(h:O9 l (m+1) x=0)(hr:Ji x.at_=true)(ho:x.at_.own=true):∃ (j:Nat) (y:POp),x.at_.n=(j:Int)+1/\j<m/\l[j]?=some y/\y.kind=1:=by
 unfold Ji at hr;rw[if_pos ho,lE,decide_eq_true_eq] at hr;unfold O9 at h;rw[ho,Bool.true_and] at h;split at h
 ·cases h
 ·next h1 =>
  rw[Bool.or_eq_true,not_or,decide_eq_true_eq] at h1;obtain⟨h2,h3⟩:=h1;have h4:=hr.2;refine⟨(x.at_.n - 1).toNat,?_⟩;cases hy:l[(x.at_.n - 1).toNat]? with
  | none=>rw[hy] at h3;simp at h3
  | some y =>
   rw[hy] at h3;exact⟨y,by omega,by omega,rfl,by simpa using h3⟩
theorem Z6f{x:POp}(hr:Ji x.at_=true)(ho:x.at_.own=false)(hn:x.at_ ≠ Z8):1<=x.at_.n/\x.at_.n<=2000:=by
 unfold Ji at hr;rw[if_neg (by rw[ho];decide),if_neg (fun e=>hn (Z6b.1 e)),lE,decide_eq_true_eq,decide_eq_true_eq] at hr;exact⟨hr.1,hr.2⟩
structure AddOk (T S:FT) (id:Str) (l:List POp) (m:Nat):Prop where
 ok:FTok S
 mine:∀ (k:Nat) (nd:FN),S.nodes[k]?=some nd->0<k->nd.name.com=id->nd.name.n<=m
 done:∀ (j:Nat) (x:POp),j<m->l[j]?=some x->x.kind=1->∃ k nd,0<k/\S.nodes[k]?=some nd/\nd.name=⟨false,id,((j+1:Nat):Int)⟩
 old:∀ (k:Nat) (nd:FN),T.nodes[k]?=some nd->∃ nd',S.nodes[k]?=some nd'/\nd'.name=nd.name
 len:S.nodes.length<=T.nodes.length+m
 add:∃ n,(id,n) ∈ S.added
theorem AddOk.start{T:FT}{id:Str}{l:List POp}(hT:FTok T)(h:OpsOk T id l):AddOk T { T with added:=T.added++[(id,l.length)] } id l 0 where
 ok:=⟨hT.root,fun k nd hk h0=>by
   obtain⟨h1,h2,h3,h4,n,hn⟩:=hT.name k nd hk h0;exact⟨h1,h2,h3,h4,n,List.mem_append_left _ hn⟩,hT.inj,hT.kids,hT.slen,hT.par,hT.once,fun p hp=>by
   rcases lI.1 hp with hp | hp
   ·exact hT.add p hp
   ·obtain rfl:p=_:=by simpa using hp
    exact⟨h.idl,h.len⟩,by
   rw[List.map_append,List.nodup_append];refine⟨hT.nodup,by simp,?_⟩;intro a ha b hb e;obtain⟨p,hp,rfl⟩:=List.mem_map.1 ha;obtain rfl:b=id:=by simpa using hb
   exact h.new p hp e,hT.seen⟩
 mine:=fun k nd hk h0 hc=>by
  obtain⟨_,_,_,_,n,hn⟩:=hT.name k nd hk h0;exact absurd hc (h.new _ hn)
 done:=fun j x hj=>by omega
 old:=fun k nd hk=>⟨nd,hk,rfl⟩
 len:=lD _
 add:=⟨l.length,by simp⟩
theorem AddOk.find{T S:FT}{id:Str}{l:List POp}{m:Nat}{x:POp}(h:AddOk T S id l m)(ho:OpsOk T id l)(hx:l[m]?=some x) :
  ∃ k nd,S.nodes[k]?=some nd/\Us S id x.at_=some k/\((x.at_=Z8/\k=0) ∨ (0<k/\nd.name=Qa id x.at_/\x.at_ ≠ Z8)):=by
 obtain⟨hm,hxe⟩:=lB.1 hx;obtain⟨h1,h2,h3⟩:=Ut (ho.right m hm) hx;by_cases hr:x.at_=Z8
 ·obtain⟨nd,hn,_⟩:=h.ok.root;refine⟨0,nd,hn,Zl8 S ?_,.inl ⟨hr,rfl⟩⟩;rw[hr];rfl
 ·have hgo:∀ (k:Nat) (nd:FN),0<k->S.nodes[k]?=some nd->nd.name=Qa id x.at_->∃ k nd,S.nodes[k]?=some nd/\Us S id x.at_=some k/\((x.at_=Z8/\k=0) ∨ (0<k/\nd.name=Qa id x.at_/\x.at_ ≠ Z8)):=fun k nd hk hn he =>
   ⟨k,nd,hn,Zl9 h.ok hn he (by rw[<-he];exact (h.ok.com hn).2.2.2.2 hk),.inr ⟨hk,he,hr⟩⟩
  cases hw:x.at_.own with
  | true =>
   obtain⟨j,y,e1,e2,e3,e4⟩:=Z3o h3 h1 hw;obtain⟨k,nd,hk,hn,he⟩:=h.done j y e2 e3 e4;refine hgo k nd hk hn ?_;rw[he];unfold Qa;rw[if_pos hw,e1];rfl
  | false =>
   obtain⟨k,nd,hk,hn,he⟩:=ho.far x (List.mem_of_getElem? hx) hw hr;obtain⟨nd',hn',he'⟩:=h.old k nd hn;refine hgo k nd' hk hn' ?_;rw[he',he];unfold Qa;rw[if_neg (by rw[hw];decide)]
theorem AddOk.step{T S:FT}{id:Str}{l:List POp}{m:Nat}{x:POp}(h:AddOk T S id l m)(ho:OpsOk T id l)(hx:l[m]?=some x):AddOk T (Q9 S id m x) id l (m+1):=by
 obtain⟨hm,hxe⟩:=lB.1 hx;obtain⟨h1,h2,h3⟩:=Ut (ho.right m hm) hx;obtain⟨k,nd,hk,hf,hc⟩:=h.find ho hx;have hlen:=h.len;have hol:=ho.len;rcases Z0i h2 with ⟨hk1,_⟩ | ⟨hk2,_⟩
 ·rw[Z6e hf hk hk1];have hfresh:∀ (j:Nat) (y:FN),S.nodes[j]?=some y->y.name ≠ ⟨false,id,((m+1:Nat):Int)⟩:=fun j y hj e=>by
   rcases j with _ | j
   ·obtain⟨r,e1,e2,_⟩:=h.ok.root;rw[e1] at hj;obtain rfl:=lA hj;rw[e2] at e
    injection e with _ _ e
    omega
   ·have:=h.mine (j+1) y hj (by omega) (by rw[e]);rw[e] at this;dsimp only at this;omega
  obtain⟨n,hn⟩:=h.add;have hF:=h.ok.ins hk x.left (Oq S (Zd nd x.left) ⟨false,id,((m+1:Nat):Int)⟩) ⟨false,id,((m+1:Nat):Int)⟩ x.byte ⟨rfl,ho.idl,by dsimp only;omega,by dsimp only;omega,n,hn⟩ hfresh;have hnm:∀ (j:Nat) (y:FN),S.nodes[j]?=some y->∃ y',(Jo S k x.left (Xb (Zd nd x.left) (Oq S (Zd nd x.left) ⟨false,id,((m+1:Nat):Int)⟩) S.nodes.length) ⟨false,id,((m+1:Nat):Int)⟩ x.byte).nodes[j]?=some y'/\y'.name=y.name:=fun j y hj=>by
   obtain⟨hl,_⟩:=lB.1 hj;refine⟨if j=k then Ko x.left (Xb (Zd nd x.left) (Oq S (Zd nd x.left) ⟨false,id,((m+1:Nat):Int)⟩) S.nodes.length) y else y,?_,?_⟩
   ·unfold Jo;dsimp only;rw[lG (by rw[Jb];exact hl),Vd,hj];split <;> rfl
   ·split
    ·exact (Ve _ _ _).1
    ·rfl
  refine⟨hF,?_,?_,?_,?_,⟨n,hn⟩⟩
  ·intro j y hj h0 hcom;rcases Vg hj with ⟨_,rfl⟩ | ⟨_,y',hy,rfl⟩
   ·exact Int.le_refl _
   ·have e:(if j=k then Ko x.left (Xb (Zd nd x.left) (Oq S (Zd nd x.left) ⟨false,id,((m+1:Nat):Int)⟩) S.nodes.length) y' else y').name=y'.name:=by
     split
     ·exact (Ve _ _ _).1
     ·rfl
    rw[e] at hcom ⊢;have:=h.mine j y' hy h0 hcom;omega
  ·intro j y hj hy hyk;by_cases hjm:j=m
   ·subst hjm;refine⟨S.nodes.length,⟨⟨false,id,((j+1:Nat):Int)⟩,x.byte,false,[],[]⟩,?_,?_,rfl⟩
    ·obtain⟨hl,_⟩:=lB.1 hk;omega
    ·unfold Jo;dsimp only;rw[lK (by rw[Jb];exact lD _),Jb,Nat.sub_self];rfl
   ·obtain⟨q,z,hq,hz,hzn⟩:=h.done j y (by omega) hy hyk;obtain⟨z',hz',hzn'⟩:=hnm q z hz;exact⟨q,z',hq,hz',by rw[hzn',hzn]⟩
  ·intro j y hj;obtain⟨y1,h4,h5⟩:=h.old j y hj;obtain⟨y2,h6,h7⟩:=hnm j y1 h4;exact⟨y2,h6,by rw[h7,h5]⟩
  ·rw[Z3n];omega
 ·rw[Zb7 hf hk hk2];have hnm:∀ (j:Nat) (y:FN),S.nodes[j]?=some y->∃ y',(Jy S k nd).nodes[j]?=some y'/\y'.name=y.name:=fun j y hj=>by
   have e:(Jy S k nd).nodes[j]?=if j=k then (S.nodes[j]?).map (fun y=>{ y with gone:=true }) else S.nodes[j]?:=Vd _ _ _ _;rw[hj] at e;split at e
   ·exact⟨_,e,rfl⟩
   ·exact⟨_,e,rfl⟩
  refine⟨h.ok.del hk,?_,?_,?_,?_,h.add⟩
  ·intro j y hj h0 hcom;obtain⟨y',hy,e,_⟩:=Vf hj;rw[e] at hcom ⊢;have:=h.mine j y' hy h0 hcom;omega
  ·intro j y hj hy hyk;by_cases hjm:j=m
   ·subst hjm;rw[hx] at hy;obtain rfl:=lA hy;rw[hk2] at hyk;cases hyk
   ·obtain⟨q,z,hq,hz,hzn⟩:=h.done j y (by omega) hy hyk;obtain⟨z',hz',hzn'⟩:=hnm q z hz;exact⟨q,z',hq,hz',by rw[hzn',hzn]⟩
  ·intro j y hj;obtain⟨y1,h4,h5⟩:=h.old j y hj;obtain⟨y2,h6,h7⟩:=hnm j y1 h4;exact⟨y2,h6,by rw[h7,h5]⟩
  ·show (Xm _ _ _).length<=_;rw[Jb];omega
def Uu(T:FT)(id:Str)(l:List POp)(m:Nat):FT:=Vc { T with added:=T.added++[(id,l.length)] } id 0 (l.take m)
theorem Zb9{T:FT}{id:Str}{l:List POp}{m:Nat}{x:POp}(hx:l[m]?=some x):Uu T id l (m+1)=Q9 (Uu T id l m) id m x:=by
 obtain⟨hm,he⟩:=lB.1 hx;unfold Uu;rw[List.take_succ_eq_append_getElem hm,he,Zb8,lJ,Nat.min_eq_left (by omega),Nat.zero_add]
theorem Zba(T:FT)(id:Str)(l:List POp):Uu T id l l.length=U8 T id l:=by
 unfold Uu U8;rw[List.take_length]
theorem Z6g{T:FT}{id:Str}{l:List POp}(hT:FTok T)(ho:OpsOk T id l):∀ m,m<=l.length->AddOk T (Uu T id l m) id l m
 | 0,_=>AddOk.start hT ho
 | m+1,hm=>by
  have hx:l[m]?=some l[m]:=lF (by omega);rw[Zb9 hx];exact (Z6g hT ho m (by omega)).step ho hx
end
end Go.Proofs.YtfdimggmljkkbaaGreatDoor
