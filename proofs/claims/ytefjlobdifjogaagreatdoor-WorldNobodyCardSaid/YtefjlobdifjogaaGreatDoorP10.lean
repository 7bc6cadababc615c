import Derived.Test.YtefjlobdifjogaaGreatDoorP06
import Derived.Test.YtefjlobdifjogaaGreatDoorP09
open Classical renaming byContradiction → lQ
open Go renaming wpQuiet_nil → lA
open Go.Proofs.Tryz renaming prog → lF
open Go.World renaming setCell → l0
open List renaming take_succ_cons → lB, take_zero → lC, drop_succ_cons → lD, drop_zero → lE, take_left' → lI, length_drop → lJ, length_append → lK, length_map → lL, map_drop → lM, drop_left' → lN, append_assoc → lO, length → lP, getElem?_take_of_lt → lR, getElem?_set_self → lS, getElem?_drop → lT, map_cons → lU, map_nil → lV, length_take → lW, drop_drop → lX, map_take → lY
open Nat renaming le_refl → lG, lt_of_lt_of_le → lH, le_trans → lZ
namespace Go.Proofs.YtefjlobdifjogaaGreatDoor
section

end
section
open Go.RowKit
abbrev Src(n0 g:Nat)(w:World)(A:Option Addr)(s:Str):Prop:=Rd w (fun i=>i ≠ g/\i<n0) A (s.map B)
theorem Src.touch{n0 g:Nat}{w w':World}{A:Option Addr}{s:Str}(h:Src n0 g w A s)(ht:Touch [g] w w')(hn:n0<=w.heap.size):Src n0 g w' A s :=
 h.stay (fun b hb _=>ht.block b (lH hb.2 hn) (by simpa using hb.1)) (fun _ h _=>h)
theorem Z06(s:Str)(A:Option Addr)(c k n g n0:Nat)(r:Str)(t:TypeId)(cs:List Value)(w:World)(hB:Blk w g t (.slice A s.length c :: .int .i64 (k:Int) :: cs))(hR:Src n0 g w A s)(hk:k<=s.length)(hs:s.length<=1099511627776)(hn:n<128 ^ 9)
  (hd:s.drop k=Z3 n++r) :
  Calls lF 317 #[.pointer (some ⟨g,0,none⟩)] w fun e w'=>e=.returned (.int .i64 (n:Int))/\Blk w' g t (.slice A s.length c :: .int .i64 ((k+(Z3 n).length:Nat):Int) :: cs)/\Touch [g] w w':=by
 have hl:s.length - r.length=k+(Z3 n).length:=by
  have:=congrArg lP hd;rw[lJ,lK] at this;omega
 refine (Zd5 s A c k n g r t cs w hB (hR.weak (fun _ _ h=>h.1)) hk hs (by rw[hd];exact Ou hn r)).mono ?_;rintro e w' ⟨he,q,rfl⟩;rw[hl];exact⟨he,(hB.drewN q).set_ 1 _,(Touch.drewN q).trans (Touch.setCell _ (by simp)) (fun i hi=>.inl hi)⟩
theorem Z84(s:Str)(A:Option Addr)(c k g n0:Nat)(u r:Str)(t:TypeId)(cs:List Value)(w:World)(hB:Blk w g t (.slice A s.length c :: .int .i64 (k:Int) :: cs))(hR:Src n0 g w A s)(hk:k<=s.length)(hs:s.length<=1099511627776)(hc:s.length<=c)
  (hd:s.drop k=u++r) :
  Calls lF 346 #[.pointer (some ⟨g,0,none⟩),.int .i64 (u.length:Int)] w fun e w'=>∃ A' c',e=.returned (.slice A' u.length c')/\Rd w' (fun i=>i ≠ g/\i<n0) A' (u.map B)/\Blk w' g t (.slice A s.length c :: .int .i64 ((k+u.length:Nat):Int) :: cs)/\Touch [g] w w':=by
 have hl:k+u.length<=s.length:=by
  have:=congrArg lP hd;rw[lJ,lK] at this;omega
 refine (Zd7 s.length A c k u.length g t cs w hB hl hs hc).mono ?_;rintro e w' ⟨he,q,q',rfl⟩;have hT:Touch [g] w (((w.drewN q).setCell ⟨g,1,none⟩ (.int .i64 ((k+u.length:Nat):Int))).drewN q'):=((Touch.drewN q).trans (Touch.setCell _ (by simp)) (fun i hi=>.inl hi)).trans (Touch.drewN q') (fun i hi=>.inl hi);refine⟨_,_,he,?_,(((hB.drewN q).set_ 1 _)).drewN q',hT⟩;have h1:Rd w (fun i=>i ≠ g/\i<n0) (cutA A c k 1) (u.map B):=by
  have h2:=((hR.cutA (k:=k) (cap:=c) (by rw[lL];exact hc)).take u.length);rw[<-lM,hd,List.map_append,lI (by simp)] at h2;exact h2
 exact h1.stay (fun b hb hlt=>hT.block b hlt (by simpa using hb.1)) (fun _ h _=>h)
theorem Z85(l:Bool)(w:World):(Instr.build 278 #[(0,.int .i64 1),(1,.bool l)]).run lF w=.ok (.agg (Z9 ⟨1,l,⟨false,Yf,0⟩,0⟩).toArray) w:=by kernel_rfl
end
section
def Kj:Str:=[82,77,49]
def Jg(m:PMsg):Str:=Kj++K9 m
def Ul(b:Str):Str:=b++Y6 b
def Zs(m:PMsg):Str:=Ul (Jg m)
def Xp(s:Str):Option PMsg :=
 if 2097152<s.length then none else if s.take 3 ≠ Kj then none else if s.length<35 then none
 else if Y6 (s.take (s.length - 32)) ≠ s.drop (s.length - 32) then none else Ox ((s.take (s.length - 32)).drop 3)
theorem Um{s:Str}(h:Z6 s=true):s.length<=24:=by
 unfold Z6 at h;simp only[Bool.and_eq_true,decide_eq_true_eq] at h;omega
theorem Jr{n:Nat}(h:n<128 ^ 9):(Z3 n).length<=10:=Kf 9 n h
theorem Zh8{m:PMsg}(h:Yc m=0)(hf:MFit m):(K9 m).length<=1070000:=by
 obtain⟨k0,k1,s0,c0,hn,o1,n1,p1⟩:=Z1k h;have hk:=hf.kind;have hs:=hf.ses;have hc:=hf.code;have hn:=Um hn;have hpi:(128:Int) ^ 9=9223372036854775808:=by decide
 have hp9:(128:Nat) ^ 9=9223372036854775808:=by decide
 have e1:=Jr (n:=m.kind.toNat) (by omega);have e2:=Jr (n:=m.ses.toNat) (by omega);have e3:=Jr (n:=m.code.toNat) (by omega);have e4:=Jr (n:=m.name.length) (by omega);have e5:=Jr (n:=m.pack.length) (by omega);have e6:=Jr (n:=m.old.length) (by omega);have e7:=Jr (n:=m.new.length) (by omega);have f1:=Qu hf.old;have f2:=Qu hf.new;simp only[K9,Zr,Ks,lK];omega
theorem Z4m{m:PMsg}:(Zs m).length=3+(K9 m).length+32:=by
 simp only[Zs,Ul,Jg,Kj,lK,J2,List.length_cons,List.length_nil]
theorem Z4n{m:PMsg}(h:Yc m=0)(hf:MFit m):Xp (Zs m)=some m:=by
 have hb:=Zh8 h hf;have hn:=Um (Z1k h).2.2.2.2.1;have hl:=Z4m (m:=m);have hw:(Jg m).length=3+(K9 m).length:=by simp[Jg,Kj];omega
 have ht:(Zs m).take ((Zs m).length - 32)=Jg m:=by
  rw[hl,show 3+(K9 m).length+32 - 32=(Jg m).length by rw[hw];omega];unfold Zs Ul;exact lI rfl
 have hd:(Zs m).drop ((Zs m).length - 32)=Y6 (Jg m):=by
  rw[hl,show 3+(K9 m).length+32 - 32=(Jg m).length by rw[hw];omega];unfold Zs Ul;exact lN rfl
 have h3:(Zs m).take 3=Kj:=by
  unfold Zs Ul Jg;rw[lO];exact lI rfl
 unfold Xp;rw[if_neg (by omega),if_neg (by rw[h3];simp),if_neg (by omega),ht,hd,if_neg (by simp)];rw[show (Jg m).drop 3=K9 m from lN rfl];exact Zd2 h hf (by omega)
theorem Z4o{s:Str}{m:PMsg}(h:Xp s=some m):s.length<=2097152:=by
 unfold Xp at h;split at h
 ·cases h
 ·omega
theorem Zh9{m n:PMsg}{k:Nat}{x:UInt8}(hx:(Zs m)[k]? ≠ some x)(hk:k<(Zs m).length)(h:Xp ((Zs m).set k x)=some n) :
  3<=k/\k<(Zs m).length - 32/\Y6 (((Zs m).set k x).take ((Zs m).length - 32))=Y6 ((Zs m).take ((Zs m).length - 32)):=by
 have hl:=Z4m (m:=m);have hw:(Jg m).length=3+(K9 m).length:=by simp[Jg,Kj];omega
 have hd:(Zs m).drop ((Zs m).length - 32)=Y6 (Jg m):=by
  rw[hl,show 3+(K9 m).length+32 - 32=(Jg m).length by rw[hw];omega];unfold Zs Ul;exact lN rfl
 have ht:(Zs m).take ((Zs m).length - 32)=Jg m:=by
  rw[hl,show 3+(K9 m).length+32 - 32=(Jg m).length by rw[hw];omega];unfold Zs Ul;exact lI rfl
 have h3:(Zs m).take 3=Kj:=by
  unfold Zs Ul Jg;rw[lO];exact lI rfl
 obtain⟨s,hs⟩:∃ s,s=Zs m:=⟨_,rfl⟩;rw[<-hs] at hx hk h hl hd ht h3 ⊢;unfold Xp at h;rw[List.length_set] at h;split at h
 ·cases h
 ·split at h
  ·cases h
  ·rename_i h2;split at h
   ·cases h
   ·split at h
    ·cases h
    ·rename_i h4;have h2':(s.set k x).take 3=Kj:=by simpa using h2
     have h4':Y6 ((s.set k x).take (s.length - 32))=(s.set k x).drop (s.length - 32):=by simpa using h4
     have k3:3<=k:=by
      apply lQ;intro hk3;apply hx;have e:((s.set k x).take 3)[k]?=(s.take 3)[k]?:=by rw[h2',h3]
      rw[lR (by omega),lR (by omega),lS hk] at e;exact e.symm
     have ke:k<s.length - 32:=by
      apply lQ;intro hke;apply hx;rw[List.take_set_of_le (by omega),ht,<-hd] at h4';have e:((s.set k x).drop (s.length - 32))[k - (s.length - 32)]?=(s.drop (s.length - 32))[k - (s.length - 32)]?:=by rw[<-h4']
      rw[lT,lT,show s.length - 32+(k - (s.length - 32))=k by omega,lS hk] at e;exact e.symm
     refine⟨k3,ke,?_⟩;rw[h4',ht,<-hd,List.drop_set_of_lt ke]
end
section
set_option maxRecDepth 100000
set_option maxHeartbeats 8000000
open Go.Lib renaming hid → iD
open Go.Proofs.Tryz
open Go.RowKit
abbrev Z2c(A:Option Addr)(n c:Nat)(k er:Int):List Value:=[.slice A n c,.int .i64 k,.int .i64 er]
def Jh(w:World)(g:Nat)(A:Option Addr)(c:Nat)(s:Str):Option Str->Prop
 | some r=>∃ k:Nat,k<=s.length/\s.drop k=r/\Blk w g 123 (Z2c A s.length c k 0)
 | none=>∃ (k:Int) (er:Nat),0<er/\er<100/\Blk w g 123 (Z2c A s.length c k er)
def Ya:Option Str->Int × Option Str
 | none=>(0,none)
 | some r=>match Yw r with
  | none=>(0,none)
  | some (n,r')=>((n:Int),some r')
def Jz:Option Str->Str × Option Str
 | none=>([],none)
 | some r=>match Yy 1 131072 r with
  | none=>([],none)
  | some (t,r')=>(t,some r')
def Y0(each most:Nat):Option Str->Str × Option Str
 | none=>([],none)
 | some r=>match Yy each most r with
  | none=>([],none)
  | some (t,r')=>(t,some r')
theorem Gd(w:World)(g q i j:Nat)(u v:Value):Touch [g] w (((w.drewN q).setCell ⟨g,i,none⟩ u).setCell ⟨g,j,none⟩ v) :=
 ((Touch.drewN q).trans (Touch.setCell u (by simp)) (fun i hi=>.inl hi)).trans (Touch.setCell v (by simp)) (fun i hi=>.inl hi)
theorem Jh.lt{w:World}{g:Nat}{A:Option Addr}{c:Nat}{s:Str}{st:Option Str}(h:Jh w g A c s st):g<w.heap.size:=by
 cases st with
 | none=>obtain⟨k,er,_,_,h⟩:=h;exact h.lt
 | some r=>obtain⟨k,_,_,h⟩:=h;exact h.lt
theorem Jh.below{w w':World}{g:Nat}{A:Option Addr}{c:Nat}{s:Str}{st:Option Str}(h:Jh w g A c s st)(hb:Below w.heap.size w w'):Jh w' g A c s st:=by
 cases st with
 | none=>obtain⟨k,er,h0,h1,h⟩:=h;exact⟨k,er,h0,h1,h.below hb h.lt⟩
 | some r=>obtain⟨k,h0,h1,h⟩:=h;exact⟨k,h0,h1,h.below hb h.lt⟩
theorem Z0g(s:Str)(A:Option Addr)(c g:Nat)(st:Option Str)(w:World)(hB:Jh w g A c s st)(hR:Rd w (· ≠ g) A (s.map B))(hs:s.length<=1099511627776) :
  Calls lF 61 #[.pointer (some ⟨g,0,none⟩)] w fun e w'=>e=.returned (.int .i64 (Ya st).1)/\Jh w' g A c s (Ya st).2/\Touch [g] w w':=by
 cases st with
 | none =>
  obtain⟨k,er,h0,h1,hB⟩:=hB;have c2:w.cell? ⟨g,2,none⟩=some (.int .i64 (er:Int)):=hB.cell 2;have hne:((er:Int) != 0)=true:=by simp;omega
  replace hB:=iD hB;clear hR;go_enter func61,ntmps61;go_wp2_with fail;go_returns;exact⟨rfl,⟨k,er,h0,h1,hB.out⟩,Touch.refl _ _⟩
 | some r =>
  obtain⟨k,hk,hr,hB⟩:=hB;have hg:Hid (∀ x:Cls (Yz w),Calls lF 144 #[.slice A s.length c,.int .i64 (k:Int)] x.1 fun e w'=>Q7 s k e/\w'=x.1):=iD (by rintro ⟨_,q,rfl⟩;exact Z1l s A c k (w.drewN q) ((hR.weak (fun _ _ _=>trivial)).drewN q) hk hs);have c0:∀ x:Cls (Yz w),x.1.cell? ⟨g,0,none⟩=some (.slice A s.length c):=by rintro ⟨_,q,rfl⟩;exact (hB.drewN q).cell 0
  have c1:∀ x:Cls (Yz w),x.1.cell? ⟨g,1,none⟩=some (.int .i64 (k:Int)):=by rintro ⟨_,q,rfl⟩;exact (hB.drewN q).cell 1
  have c2:w.cell? ⟨g,2,none⟩=some (.int .i64 0):=hB.cell 2;replace hB:=iD hB;replace hr:=iD hr;clear hR;haveI : Nonempty (Cls (Yz w)):=⟨⟨w,0,rfl⟩⟩;go_enter func61,ntmps61;go_wp2_with fail;refine Yh (fun w'=>∃ x:Cls (Yz w),w'=x.1) [([0,1,2,3,4,5,6,7],8)] [9,10,11,12,13,14] 15 [] (by kernel_rfl) (by kernel_rfl) (fun _ d _ _ _ h=>by cases d <;> exact h) ⟨⟨_,1,rfl⟩,rfl⟩ ?_;simp only[Y4,Z7,lU,lV,Zo,Zn];repeat (first | go_big_quiet_step (fail))
  refine lA ?_;intro K hK;go_simp;refine (hg.out ⟨_,1,rfl⟩).mono ?_;rintro e w1 ⟨⟨n',r',hn',rfl⟩ | ⟨hn',er,h0,h1,rfl⟩,rfl⟩
  ·refine hK _ _ ⟨⟨_,1,rfl⟩,rfl⟩ ?_;clear hK hg c0 c1 c2;rw[hr.out] at hn';replace hn':=iD hn';repeat (first | go_big_quiet_step (fail))
   refine lA ?_;have d1:=(hB.out.drewN 1).cell 1;have f1:=(hB.out.drewN 1).frozen 1;have hB2:=(hB.out.drewN 1).set_ 1 (.int .i64 ((s.length - r'.length:Nat):Int));have d2:=hB2.cell 2;have f2:=hB2.frozen 2;have hB3:=iD (hB2.set_ 2 (.int .i64 0));have hT:=iD (Gd w g 1 1 2 (.int .i64 ((s.length - r'.length:Nat):Int)) (.int .i64 0));replace hB2:=iD hB2;go_wp2_with fail;go_returns;obtain⟨hp,_⟩:=Ov hn'.out;obtain⟨e1,e2⟩:=Z3l (hr.out.trans hp);refine⟨by simp[Ya,hn'.out],?_,hT.out⟩;simp only[Ya,hn'.out];exact⟨_,by omega,e1.symm,hB3.out⟩
  ·refine hK _ _ ⟨⟨_,1,rfl⟩,rfl⟩ ?_;clear hK hg c0 c1 c2;rw[hr.out] at hn';replace hn':=iD hn';repeat (first | go_big_quiet_step (fail))
   refine lA ?_;have d1:=(hB.out.drewN 1).cell 1;have f1:=(hB.out.drewN 1).frozen 1;have hB2:=(hB.out.drewN 1).set_ 1 (.int .i64 0);have d2:=hB2.cell 2;have f2:=hB2.frozen 2;have hB3:=iD (hB2.set_ 2 (.int .i64 (er:Int)));have hT:=iD (Gd w g 1 1 2 (.int .i64 0) (.int .i64 (er:Int)));replace hB2:=iD hB2;go_wp2_with fail;go_returns;refine⟨by simp[Ya,hn'.out],?_,hT.out⟩;simp only[Ya,hn'.out];exact⟨0,er,h0,h1,hB3.out⟩
theorem Zha(s:Str)(A:Option Addr)(c g:Nat)(st:Option Str)(w:World)(hB:Jh w g A c s st)(hR:Rd w (· ≠ g) A (s.map B))(hs:s.length<=1099511627776)(hc:s.length<=c) :
  Calls lF 62 #[.pointer (some ⟨g,0,none⟩)] w fun e w'=>e=.returned (Z1 (Jz st).1)/\Jh w' g A c s (Jz st).2/\Touch [g] w w':=by
 unfold Z1;cases st with
 | none =>
  obtain⟨k,er,h0,h1,hB⟩:=hB;have c2:w.cell? ⟨g,2,none⟩=some (.int .i64 (er:Int)):=hB.cell 2;have hne:((er:Int) != 0)=true:=by simp;omega
  replace hB:=iD hB;clear hR;go_enter func62,ntmps62;go_wp2_with fail;go_returns;exact⟨rfl,⟨k,er,h0,h1,hB.out⟩,Touch.refl _ _⟩
 | some r =>
  obtain⟨k,hk,hr,hB⟩:=hB;have hg:Hid (∀ x:Cls (Yz w),Calls lF 145 #[.slice A s.length c,.int .i64 (k:Int)] x.1 fun e w'=>Qv s k e/\w'=x.1):=iD (by rintro ⟨_,q,rfl⟩;exact Z3m s A c k (w.drewN q) ((hR.weak (fun _ _ _=>trivial)).drewN q) hk hs hc);have c0:∀ x:Cls (Yz w),x.1.cell? ⟨g,0,none⟩=some (.slice A s.length c):=by rintro ⟨_,q,rfl⟩;exact (hB.drewN q).cell 0
  have c1:∀ x:Cls (Yz w),x.1.cell? ⟨g,1,none⟩=some (.int .i64 (k:Int)):=by rintro ⟨_,q,rfl⟩;exact (hB.drewN q).cell 1
  have c2:w.cell? ⟨g,2,none⟩=some (.int .i64 0):=hB.cell 2;replace hB:=iD hB;replace hr:=iD hr;clear hR;haveI : Nonempty (Cls (Yz w)):=⟨⟨w,0,rfl⟩⟩;go_enter func62,ntmps62;go_wp2_with fail;refine Yh (fun w'=>∃ x:Cls (Yz w),w'=x.1) [([0,1,2,3,4,5,6,7],8)] [9,10,11,12,13,14] 15 [] (by kernel_rfl) (by kernel_rfl) (fun _ d _ _ _ h=>by cases d <;> exact h) ⟨⟨_,1,rfl⟩,rfl⟩ ?_;simp only[Y4,Z7,lU,lV,Zo,Zn];repeat (first | go_big_quiet_step (fail))
  refine lA ?_;intro K hK;go_simp;refine (hg.out ⟨_,1,rfl⟩).mono ?_;rintro e w1 ⟨⟨u,r',hn',rfl⟩ | ⟨hn',er,h0,h1,rfl⟩,rfl⟩
  ·unfold Z1;refine hK _ _ ⟨⟨_,1,rfl⟩,rfl⟩ ?_;clear hK hg c0 c1 c2;rw[hr.out] at hn';replace hn':=iD hn';repeat (first | go_big_quiet_step (fail))
   refine lA ?_;have d1:=(hB.out.drewN 1).cell 1;have f1:=(hB.out.drewN 1).frozen 1;have hB2:=(hB.out.drewN 1).set_ 1 (.int .i64 ((s.length - r'.length:Nat):Int));have d2:=hB2.cell 2;have f2:=hB2.frozen 2;have hB3:=iD (hB2.set_ 2 (.int .i64 0));have hT:=iD (Gd w g 1 1 2 (.int .i64 ((s.length - r'.length:Nat):Int)) (.int .i64 0));replace hB2:=iD hB2;go_wp2_with fail;go_returns;obtain⟨m,_,_,_,hp⟩:=Z3i hn'.out;have hp2:s.drop k=(Z3 m++u)++r':=by rw[hr.out,hp,lO]
   obtain⟨e1,e2⟩:=Z3l hp2;refine⟨by simp[Jz,hn'.out],?_,hT.out⟩;simp only[Jz,hn'.out];exact⟨_,by omega,e1.symm,hB3.out⟩
  ·refine hK _ _ ⟨⟨_,1,rfl⟩,rfl⟩ ?_;clear hK hg c0 c1 c2;rw[hr.out] at hn';replace hn':=iD hn';repeat (first | go_big_quiet_step (fail))
   refine lA ?_;have d1:=(hB.out.drewN 1).cell 1;have f1:=(hB.out.drewN 1).frozen 1;have hB2:=(hB.out.drewN 1).set_ 1 (.int .i64 0);have d2:=hB2.cell 2;have f2:=hB2.frozen 2;have hB3:=iD (hB2.set_ 2 (.int .i64 (er:Int)));have hT:=iD (Gd w g 1 1 2 (.int .i64 0) (.int .i64 (er:Int)));replace hB2:=iD hB2;go_wp2_with fail;go_returns;refine⟨by simp[Jz,hn'.out],?_,hT.out⟩;simp only[Jz,hn'.out];exact⟨0,er,h0,h1,hB3.out⟩
end
section
set_option maxRecDepth 100000
set_option maxHeartbeats 8000000
open Go.Lib renaming hid → iD
open Go.Proofs.Tryz
open Go.RowKit
theorem Ge{each most:Nat}{r:Str}(h:Yy each most r=none):Y0 each most (some r)=([],none):=by simp[Y0,h]
theorem Z8w{each most:Nat}{r t r':Str}(h:Yy each most r=some (t,r')):Y0 each most (some r)=(t,some r'):=by simp[Y0,h]
theorem Gf(w:World)(ok:Nat->Prop)(A:Option Addr):Rd w ok A (([]:Str).map B):=fun h=>by simp at h
theorem Zhb(s:Str)(A:Option Addr)(c g n0:Nat)(st:Option Str)(w:World)(hB:Jh w g A c s st)(hR:Src n0 g w A s)(hn0:n0<=w.heap.size)(hs:s.length<=1099511627776)(hc:s.length<=c) :
    Calls lF 64 #[.pointer (some ⟨g,0,none⟩),.int .i64 32,.int .i64 256,.int .i64 4] w fun e w'=>∃ A' c',e=.returned (.slice A' (Y0 32 256 st).1.length c')/\(Y0 32 256 st).1.length<=c'/\Rd w' (fun i=>i ≠ g/\i<n0) A' ((Y0 32 256 st).1.map B)/\Jh w' g A c s (Y0 32 256 st).2/\Touch [g] w w':=by
  have hnum:=Z0g s A c g st w hB (hR.weak (fun _ _ h=>h.1)) hs;replace hR:=iD hR;clear hB;go_enter func64,ntmps64;go_wp2_with fail;refine hnum.mono ?_;rintro e w1 ⟨rfl,hB,hT⟩;have hT:=iD hT;have hbad:∀ st,(match st with | none=>none | some r=>Yw r)=none->Y0 32 256 st=([],none)/\(Ya st).1=0/\(Ya st).2=none:=fun st h=>by
    cases st with
    | none=>exact⟨rfl,rfl,rfl⟩
    | some r =>
      simp only at h;refine⟨Ge (by unfold Yy;rw[h]),?_,?_⟩ <;> simp only[Ya,h]
  by_cases hst:(match st with | none=>none | some r=>Yw r)=none
  · obtain⟨h1,h2,h3⟩:=hbad st hst
    rw[h3] at hB;rw[h2];replace h1:=iD h1;obtain⟨k,er,h0,h1',hB⟩:=hB;have c2:w1.cell? ⟨g,2,none⟩=some (.int .i64 (er:Int)):=hB.cell 2;have hne:((er:Int) != 0)=true:=by simp;omega
    have heq:((er:Int) == 0)=false:=by simp;omega
    replace hB:=iD hB;clear hbad hst hnum;go_wp2_with fail;refine Y7 20 (by kernel_rfl) (by kernel_rfl) ?_;simp only[lB,lC,lD,lE];repeat (first | go_big_quiet_step (fail))
    refine lA ?_;rintro _ ⟨nq,rfl⟩;have d2:(w1.drewN nq).cell? ⟨g,2,none⟩=some (.int .i64 (er:Int)):=(hB.out.drewN nq).cell 2;clear c2;go_wp2_with fail;go_returns;rw[h1.out];exact⟨_,_,rfl,lG _,Gf _ _ _,⟨k,er,h0,h1',hB.out.drewN nq⟩,hT.out.trans (Touch.drewN nq) (fun i hi=>.inl hi)⟩
  · obtain⟨r,rfl⟩:∃ r,st=some r:=by
      cases st with
      | none=>exact absurd rfl hst
      | some r=>exact⟨r,rfl⟩
    simp only at hst;obtain⟨n,r',hn⟩:∃ n r',Yw r=some (n,r'):=by
      cases h:Yw r with
      | none=>exact absurd h hst
      | some q=>exact⟨q.1,q.2,rfl⟩
    have e1:Ya (some r)=((n:Int),some r'):=by simp[Ya,hn]
    rw[e1] at hB ⊢;obtain⟨k,hk,hr,hB⟩:=hB;have hgb:Yy 32 256 r=if 256<n then none else if r'.length<n*32 then none else some (r'.take (n*32),r'.drop (n*32)):=by unfold Yy;rw[hn]
    have hrl:r'.length=s.length - k:=by rw[<-hr,lJ]
    have hn9:=(Ov hn).2;have hp9:(128:Nat) ^ 9=9223372036854775808:=by decide
    rw[hp9] at hn9;clear hst hbad hnum hn e1 hp9;have c2:w1.cell? ⟨g,2,none⟩=some (.int .i64 0):=hB.cell 2;replace hr:=iD hr;by_cases hmost:256<n
    · rw[if_pos hmost] at hgb
      have hq:=iD (Ge hgb);have f2:=hB.frozen 2;have hB2:=hB.set_ 2 (.int .i64 4);have d2:(w1.setCell ⟨g,2,none⟩ (.int .i64 4)).cell? ⟨g,2,none⟩=some (.int .i64 4):=hB2.cell 2;replace hB:=iD hB;replace hB2:=iD hB2;clear hgb;go_wp2_with fail;clear c2 f2;refine Y7 20 (by kernel_rfl) (by kernel_rfl) ?_;simp only[lB,lC,lD,lE];repeat (first | go_big_quiet_step (fail))
      refine lA ?_;rintro _ ⟨nq,rfl⟩;have d3:=(hB2.out.drewN nq).cell 2;clear d2;go_wp2_with fail;go_returns;rw[hq.out];exact⟨_,_,rfl,lG _,Gf _ _ _,⟨k,4,by omega,by omega,hB2.out.drewN nq⟩,(hT.out.trans (Touch.setCell _ (by simp)) (fun i hi=>.inl hi)).trans (Touch.drewN nq) (fun i hi=>.inl hi)⟩
    · rw[if_neg hmost] at hgb
      have hnle:n<=256:=by omega
      have c0:w1.cell? ⟨g,0,none⟩=some (.slice A s.length c):=hB.cell 0;have c1:w1.cell? ⟨g,1,none⟩=some (.int .i64 (k:Int)):=hB.cell 1;by_cases hend:r'.length<n*32
      · rw[if_pos hend] at hgb
        have hq:=iD (Ge hgb);have hlt:(s.length:Int) - (k:Int)<(n:Int)*32:=by omega
        replace hB:=iD hB;clear hgb hend hmost;go_wp2_with fail;refine Y7 20 (by kernel_rfl) (by kernel_rfl) ?_;simp only[lB,lC,lD,lE];repeat (first | go_big_quiet_step (fail))
        refine lA ?_;rintro _ ⟨nq,rfl⟩;clear c0 c1 c2;have f2:=(hB.out.drewN nq).frozen 2;have e2:=(hB.out.drewN nq).cell 2;have hB2:=(hB.out.drewN nq).set_ 2 (.int .i64 8);have d2:=hB2.cell 2;replace hB2:=iD hB2;go_wp2_with fail;go_returns;rw[hq.out];exact⟨_,_,rfl,lG _,Gf _ _ _,⟨k,8,by omega,by omega,hB2.out⟩,(hT.out.trans (Touch.drewN nq) (fun i hi=>.inl hi)).trans (Touch.setCell _ (by simp)) (fun i hi=>.inl hi)⟩
      · rw[if_neg hend] at hgb
        have hq:=iD (Z8w hgb);have hge:¬ ((s.length:Int) - (k:Int)<(n:Int)*32):=by omega
        have hle:k+n*32<=s.length:=by omega
        obtain⟨t,ht⟩:∃ t,t=r'.take (n*32):=⟨_,rfl⟩;have htl:t.length=n*32:=by rw[ht,lW];omega
        have hdr:s.drop (k+n*32)=r'.drop (n*32):=by rw[<-hr.out,lX]
        rw[<-ht] at hq;have hrt:Hid (Rd w1 (fun i=>i ≠ g/\i<n0) (cutA A c k 1) (t.map B)):=iD (by
          have h0:Rd w1 (fun i=>i ≠ g/\i<n0) A (s.map B):=hR.out.stay (fun b hb _=>hT.out.block b (lH hb.2 hn0) (by simpa using hb.1)) (fun _ h _=>h);have h1:=(h0.cutA (k:=k) (cap:=c) (by rw[lL];exact hc)).take (n*32);rw[<-lM,hr.out,<-lY,<-ht] at h1;exact h1)
        replace hB:=iD hB;replace ht:=iD ht;replace hdr:=iD hdr;clear hgb hend hmost;go_wp2_with fail;refine Y7 20 (by kernel_rfl) (by kernel_rfl) ?_;simp only[lB,lC,lD,lE];repeat (first | go_big_quiet_step (fail))
        refine lA ?_;rintro _ ⟨nq,rfl⟩;clear c0 c1 c2;have e1:=(hB.out.drewN nq).cell 1;have e2:=(hB.out.drewN nq).cell 2;have f1:=(hB.out.drewN nq).frozen 1;have hB2:=(hB.out.drewN nq).set_ 1 (.int .i64 ((k+n*32:Nat):Int));replace hB2:=iD hB2;go_wp2_with fail;rw[show ((k:Int)+(n:Int)*32)=((k+n*32:Nat):Int) by omega];have hT2:Touch [g] w ((w1.drewN nq).setCell ⟨g,1,none⟩ (.int .i64 ((k+n*32:Nat):Int))):=(hT.out.trans (Touch.drewN nq) (fun i hi=>.inl hi)).trans (Touch.setCell _ (by simp)) (fun i hi=>.inl hi);have hrt2:Rd ((w1.drewN nq).setCell ⟨g,1,none⟩ (.int .i64 ((k+n*32:Nat):Int))) (fun i=>i ≠ g/\i<n0) (cutA A c k 1) (t.map B):=(hrt.out.drewN nq).stay (fun b hb _=>(Touch.setCell (L:=[g]) _ (by simp)).block b (by rw[show (w1.drewN nq).heap.size=w1.heap.size from rfl];exact lH hb.2 (lZ hn0 hT.out.size)) (by simpa using hb.1)) (fun _ h _=>h);generalize hW:l0 (w1.drewN nq) ⟨g,1,none⟩ (.int .i64 ((k+n*32:Nat):Int))=w3 at hB2 hT2 hrt2 ⊢;have g0:w3.cell? ⟨g,0,none⟩=some (.slice A s.length c):=hB2.out.cell 0;have g1:w3.cell? ⟨g,1,none⟩=some (.int .i64 ((k+n*32:Nat):Int)):=hB2.out.cell 1;clear hW e1 e2 f1 hB hT hrt;replace hT2:=iD hT2;replace hrt2:=iD hrt2;refine Y7 16 (by kernel_rfl) (by kernel_rfl) ?_;simp only[lB,lC,lD,lE];repeat (first | go_big_quiet_step (fail))
        refine lA ?_;rintro _ ⟨nr,rfl⟩;clear g0 g1;have hkn:((k+n*32:Nat):Int) - (n:Int)*32=(k:Int):=by omega
        go_wp2_with (first
          | (refine Gq rfl 57 (.tmp 68) (.tmp 76) (.tmp 80) rfl 5 1 underlying57 (by kernel_rfl) A s.length c k (k+n*32) rfl rfl rfl (by omega) (by omega) ?_
             rw[show k+n*32 - k=n*32 by omega];go_frame)
          | fail)
        go_returns;rw[hq.out];refine⟨_,c - k,by rw[htl];rfl,by rw[htl];omega,hrt2.out.drewN nr,⟨_,hle,hdr.out,hB2.out.drewN nr⟩,hT2.out.trans (Touch.drewN nr) (fun i hi=>.inl hi)⟩
theorem Zhc(s:Str)(A:Option Addr)(c g n0:Nat)(st:Option Str)(w:World)(hB:Jh w g A c s st)(hR:Src n0 g w A s)(hn0:n0<=w.heap.size)(hs:s.length<=1099511627776)(hc:s.length<=c) :
    Calls lF 64 #[.pointer (some ⟨g,0,none⟩),.int .i64 1,.int .i64 1048576,.int .i64 3] w fun e w'=>∃ A' c',e=.returned (.slice A' (Y0 1 1048576 st).1.length c')/\(Y0 1 1048576 st).1.length<=c'/\Rd w' (fun i=>i ≠ g/\i<n0) A' ((Y0 1 1048576 st).1.map B)/\Jh w' g A c s (Y0 1 1048576 st).2/\Touch [g] w w':=by
  have hnum:=Z0g s A c g st w hB (hR.weak (fun _ _ h=>h.1)) hs;replace hR:=iD hR;clear hB;go_enter func64,ntmps64;go_wp2_with fail;refine hnum.mono ?_;rintro e w1 ⟨rfl,hB,hT⟩;have hT:=iD hT;have hbad:∀ st,(match st with | none=>none | some r=>Yw r)=none->Y0 1 1048576 st=([],none)/\(Ya st).1=0/\(Ya st).2=none:=fun st h=>by
    cases st with
    | none=>exact⟨rfl,rfl,rfl⟩
    | some r =>
      simp only at h;refine⟨Ge (by unfold Yy;rw[h]),?_,?_⟩ <;> simp only[Ya,h]
  by_cases hst:(match st with | none=>none | some r=>Yw r)=none
  · obtain⟨h1,h2,h3⟩:=hbad st hst
    rw[h3] at hB;rw[h2];replace h1:=iD h1;obtain⟨k,er,h0,h1',hB⟩:=hB;have c2:w1.cell? ⟨g,2,none⟩=some (.int .i64 (er:Int)):=hB.cell 2;have hne:((er:Int) != 0)=true:=by simp;omega
    have heq:((er:Int) == 0)=false:=by simp;omega
    replace hB:=iD hB;clear hbad hst hnum;go_wp2_with fail;refine Y7 20 (by kernel_rfl) (by kernel_rfl) ?_;simp only[lB,lC,lD,lE];repeat (first | go_big_quiet_step (fail))
    refine lA ?_;rintro _ ⟨nq,rfl⟩;have d2:(w1.drewN nq).cell? ⟨g,2,none⟩=some (.int .i64 (er:Int)):=(hB.out.drewN nq).cell 2;clear c2;go_wp2_with fail;go_returns;rw[h1.out];exact⟨_,_,rfl,lG _,Gf _ _ _,⟨k,er,h0,h1',hB.out.drewN nq⟩,hT.out.trans (Touch.drewN nq) (fun i hi=>.inl hi)⟩
  · obtain⟨r,rfl⟩:∃ r,st=some r:=by
      cases st with
      | none=>exact absurd rfl hst
      | some r=>exact⟨r,rfl⟩
    simp only at hst;obtain⟨n,r',hn⟩:∃ n r',Yw r=some (n,r'):=by
      cases h:Yw r with
      | none=>exact absurd h hst
      | some q=>exact⟨q.1,q.2,rfl⟩
    have e1:Ya (some r)=((n:Int),some r'):=by simp[Ya,hn]
    rw[e1] at hB ⊢;obtain⟨k,hk,hr,hB⟩:=hB;have hgb:Yy 1 1048576 r=if 1048576<n then none else if r'.length<n then none else some (r'.take (n),r'.drop (n)):=by unfold Yy;rw[hn];simp only[Nat.mul_one]
    have hrl:r'.length=s.length - k:=by rw[<-hr,lJ]
    have hn9:=(Ov hn).2;have hp9:(128:Nat) ^ 9=9223372036854775808:=by decide
    rw[hp9] at hn9;clear hst hbad hnum hn e1 hp9;have c2:w1.cell? ⟨g,2,none⟩=some (.int .i64 0):=hB.cell 2;replace hr:=iD hr;by_cases hmost:1048576<n
    · rw[if_pos hmost] at hgb
      have hq:=iD (Ge hgb);have f2:=hB.frozen 2;have hB2:=hB.set_ 2 (.int .i64 3);have d2:(w1.setCell ⟨g,2,none⟩ (.int .i64 3)).cell? ⟨g,2,none⟩=some (.int .i64 3):=hB2.cell 2;replace hB:=iD hB;replace hB2:=iD hB2;clear hgb;go_wp2_with fail;clear c2 f2;refine Y7 20 (by kernel_rfl) (by kernel_rfl) ?_;simp only[lB,lC,lD,lE];repeat (first | go_big_quiet_step (fail))
      refine lA ?_;rintro _ ⟨nq,rfl⟩;have d3:=(hB2.out.drewN nq).cell 2;clear d2;go_wp2_with fail;go_returns;rw[hq.out];exact⟨_,_,rfl,lG _,Gf _ _ _,⟨k,3,by omega,by omega,hB2.out.drewN nq⟩,(hT.out.trans (Touch.setCell _ (by simp)) (fun i hi=>.inl hi)).trans (Touch.drewN nq) (fun i hi=>.inl hi)⟩
    · rw[if_neg hmost] at hgb
      have hnle:n<=1048576:=by omega
      have c0:w1.cell? ⟨g,0,none⟩=some (.slice A s.length c):=hB.cell 0;have c1:w1.cell? ⟨g,1,none⟩=some (.int .i64 (k:Int)):=hB.cell 1;by_cases hend:r'.length<n
      · rw[if_pos hend] at hgb
        have hq:=iD (Ge hgb);have hlt:(s.length:Int) - (k:Int)<(n:Int):=by omega
        replace hB:=iD hB;clear hgb hend hmost;go_wp2_with fail;refine Y7 20 (by kernel_rfl) (by kernel_rfl) ?_;simp only[lB,lC,lD,lE];repeat (first | go_big_quiet_step (fail))
        refine lA ?_;rintro _ ⟨nq,rfl⟩;clear c0 c1 c2;have f2:=(hB.out.drewN nq).frozen 2;have e2:=(hB.out.drewN nq).cell 2;have hB2:=(hB.out.drewN nq).set_ 2 (.int .i64 8);have d2:=hB2.cell 2;replace hB2:=iD hB2;go_wp2_with fail;go_returns;rw[hq.out];exact⟨_,_,rfl,lG _,Gf _ _ _,⟨k,8,by omega,by omega,hB2.out⟩,(hT.out.trans (Touch.drewN nq) (fun i hi=>.inl hi)).trans (Touch.setCell _ (by simp)) (fun i hi=>.inl hi)⟩
      · rw[if_neg hend] at hgb
        have hq:=iD (Z8w hgb);have hge:¬ ((s.length:Int) - (k:Int)<(n:Int)):=by omega
        have hle:k+n<=s.length:=by omega
        obtain⟨t,ht⟩:∃ t,t=r'.take (n):=⟨_,rfl⟩;have htl:t.length=n:=by rw[ht,lW];omega
        have hdr:s.drop (k+n)=r'.drop (n):=by rw[<-hr.out,lX]
        rw[<-ht] at hq;have hrt:Hid (Rd w1 (fun i=>i ≠ g/\i<n0) (cutA A c k 1) (t.map B)):=iD (by
          have h0:Rd w1 (fun i=>i ≠ g/\i<n0) A (s.map B):=hR.out.stay (fun b hb _=>hT.out.block b (lH hb.2 hn0) (by simpa using hb.1)) (fun _ h _=>h);have h1:=(h0.cutA (k:=k) (cap:=c) (by rw[lL];exact hc)).take (n);rw[<-lM,hr.out,<-lY,<-ht] at h1;exact h1)
        replace hB:=iD hB;replace ht:=iD ht;replace hdr:=iD hdr;clear hgb hend hmost;go_wp2_with fail;refine Y7 20 (by kernel_rfl) (by kernel_rfl) ?_;simp only[lB,lC,lD,lE];repeat (first | go_big_quiet_step (fail))
        refine lA ?_;rintro _ ⟨nq,rfl⟩;clear c0 c1 c2;have e1:=(hB.out.drewN nq).cell 1;have e2:=(hB.out.drewN nq).cell 2;have f1:=(hB.out.drewN nq).frozen 1;have hB2:=(hB.out.drewN nq).set_ 1 (.int .i64 ((k+n:Nat):Int));replace hB2:=iD hB2;go_wp2_with fail;rw[show ((k:Int)+(n:Int))=((k+n:Nat):Int) by omega];have hT2:Touch [g] w ((w1.drewN nq).setCell ⟨g,1,none⟩ (.int .i64 ((k+n:Nat):Int))):=(hT.out.trans (Touch.drewN nq) (fun i hi=>.inl hi)).trans (Touch.setCell _ (by simp)) (fun i hi=>.inl hi);have hrt2:Rd ((w1.drewN nq).setCell ⟨g,1,none⟩ (.int .i64 ((k+n:Nat):Int))) (fun i=>i ≠ g/\i<n0) (cutA A c k 1) (t.map B):=(hrt.out.drewN nq).stay (fun b hb _=>(Touch.setCell (L:=[g]) _ (by simp)).block b (by rw[show (w1.drewN nq).heap.size=w1.heap.size from rfl];exact lH hb.2 (lZ hn0 hT.out.size)) (by simpa using hb.1)) (fun _ h _=>h);generalize hW:l0 (w1.drewN nq) ⟨g,1,none⟩ (.int .i64 ((k+n:Nat):Int))=w3 at hB2 hT2 hrt2 ⊢;have g0:w3.cell? ⟨g,0,none⟩=some (.slice A s.length c):=hB2.out.cell 0;have g1:w3.cell? ⟨g,1,none⟩=some (.int .i64 ((k+n:Nat):Int)):=hB2.out.cell 1;clear hW e1 e2 f1 hB hT hrt;replace hT2:=iD hT2;replace hrt2:=iD hrt2;refine Y7 16 (by kernel_rfl) (by kernel_rfl) ?_;simp only[lB,lC,lD,lE];repeat (first | go_big_quiet_step (fail))
        refine lA ?_;rintro _ ⟨nr,rfl⟩;clear g0 g1;have hkn:((k+n:Nat):Int) - (n:Int)=(k:Int):=by omega
        go_wp2_with (first
          | (refine Gq rfl 57 (.tmp 68) (.tmp 76) (.tmp 80) rfl 5 1 underlying57 (by kernel_rfl) A s.length c k (k+n) rfl rfl rfl (by omega) (by omega) ?_
             rw[show k+n - k=n by omega];go_frame)
          | fail)
        go_returns;rw[hq.out];refine⟨_,c - k,by rw[htl];rfl,by rw[htl];omega,hrt2.out.drewN nr,⟨_,hle,hdr.out,hB2.out.drewN nr⟩,hT2.out.trans (Touch.drewN nr) (fun i hi=>.inl hi)⟩
end
section
structure RdM where
 k:Int × Option Str
 s:Int × Option Str
 n:Str × Option Str
 o:Str × Option Str
 w:Str × Option Str
 p:Str × Option Str
 c:Int × Option Str
def rdM(st:Option Str):RdM :=
 let k:=Ya st
 let s:=Ya k.2
 let n:=Jz s.2
 let o:=Y0 32 256 n.2
 let w:=Y0 32 256 o.2
 let p:=Y0 1 1048576 w.2
 ⟨k,s,n,o,w,p,Ya p.2⟩
def RdM.msg(r:RdM):PMsg:=⟨r.k.1,r.s.1,r.n.1,K8 (r.o.1.length / 32) r.o.1,K8 (r.w.1.length / 32) r.w.1,r.p.1,r.c.1⟩
theorem rn0:Ya none=(0,none):=rfl
theorem rt0:Jz none=([],none):=rfl
theorem rb0(each most:Nat):Y0 each most none=([],none):=rfl
theorem Zhd(s:Str):Ox s=if (rdM (some s)).c.2=some [] then (if Yc (rdM (some s)).msg=0 then some (rdM (some s)).msg else none) else none:=by
 unfold Ox;cases h1:Yw s with
 | none =>
  have e1:Ya (some s)=(0,none):=by simp only[Ya,h1]
  simp[rdM,e1,rn0,rt0,rb0]
 | some q1 =>
  obtain⟨k,s1⟩:=q1;have e1:Ya (some s)=((k:Int),some s1):=by simp only[Ya,h1]
  simp only;cases h2:Yw s1 with
  | none =>
   have e2:Ya (some s1)=(0,none):=by simp only[Ya,h2]
   simp[rdM,e1,e2,rn0,rt0,rb0]
  | some q2 =>
   obtain⟨ses,s2⟩:=q2;have e2:Ya (some s1)=((ses:Int),some s2):=by simp only[Ya,h2]
   simp only;cases h3:Yy 1 131072 s2 with
   | none =>
    have e3:Jz (some s2)=([],none):=by simp only[Jz,h3]
    simp[rdM,e1,e2,e3,rn0,rb0]
   | some q3 =>
    obtain⟨nm,s3⟩:=q3;have e3:Jz (some s2)=(nm,some s3):=by simp only[Jz,h3]
    simp only;cases h4:Yy 32 256 s3 with
    | none =>
     have e4:Y0 32 256 (some s3)=([],none):=by simp only[Y0,h4]
     simp[rdM,e1,e2,e3,e4,rn0,rb0]
    | some q4 =>
     obtain⟨ol,s4⟩:=q4;have e4:Y0 32 256 (some s3)=(ol,some s4):=by simp only[Y0,h4]
     simp only;cases h5:Yy 32 256 s4 with
     | none =>
      have e5:Y0 32 256 (some s4)=([],none):=by simp only[Y0,h5]
      simp[rdM,e1,e2,e3,e4,e5,rn0,rb0]
     | some q5 =>
      obtain⟨nw,s5⟩:=q5;have e5:Y0 32 256 (some s4)=(nw,some s5):=by simp only[Y0,h5]
      simp only;cases h6:Yy 1 1048576 s5 with
      | none =>
       have e6:Y0 1 1048576 (some s5)=([],none):=by simp only[Y0,h6]
       simp[rdM,e1,e2,e3,e4,e5,e6,rn0]
      | some q6 =>
       obtain⟨pk,s6⟩:=q6;have e6:Y0 1 1048576 (some s5)=(pk,some s6):=by simp only[Y0,h6]
       simp only;cases h7:Yw s6 with
       | none =>
        have e7:Ya (some s6)=(0,none):=by simp only[Ya,h7]
        simp[rdM,e1,e2,e3,e4,e5,e6,e7]
       | some q7 =>
        obtain⟨cd,s7⟩:=q7;have e7:Ya (some s6)=((cd:Int),some s7):=by simp only[Ya,h7]
        simp only;have hr:rdM (some s)=⟨(k,some s1),(ses,some s2),(nm,some s3),(ol,some s4),(nw,some s5),(pk,some s6),(cd,some s7)⟩:=by simp only[rdM,e1,e2,e3,e4,e5,e6,e7]
        rw[hr];simp only[RdM.msg,Option.some.injEq];by_cases h8:s7=[]
        ·rw[if_pos h8,if_pos h8];rfl
        ·rw[if_neg h8,if_neg h8]
theorem Zhe{each most:Nat}(st:Option Str):∃ k,k<=most/\(Y0 each most st).1.length=k*each:=by
 cases st with
 | none=>exact⟨0,Nat.zero_le _,by simp[Y0]⟩
 | some r =>
  cases h:Yy each most r with
  | none=>exact⟨0,Nat.zero_le _,by simp[Y0,h]⟩
  | some q =>
   obtain⟨t,r'⟩:=q;obtain⟨n,_,h2,h3,_⟩:=Z3i h;exact⟨n,h2,by simp[Y0,h,h3]⟩
theorem Zhf(st:Option Str):0<=(Ya st).1/\(Ya st).1<9223372036854775808:=by
 cases st with
 | none=>simp[Ya]
 | some r =>
  cases h:Yw r with
  | none=>simp[Ya,h]
  | some q =>
   obtain⟨n,r'⟩:=q;have h2:=(Ov h).2;have hp9:(128:Nat) ^ 9=9223372036854775808:=by decide
   rw[hp9] at h2;simp only[Ya,h];omega
end
end Go.Proofs.YtefjlobdifjogaaGreatDoor
