import Derived.Maps.OwnSet
import Derived.Maps.Ext
import Derived.Maps.StringElems
import Derived.Sort.KeysCollected
import Derived.Test.YtfdimggmljkkbaaGreatDoorProg
import Derived.Test.YtfdimggmljkkbaaGreatDoorP01
import Derived.Maps.OwnOps
import Derived.Sort.OwnSorted
import Derived.Handy
import Derived.WalkMore
import Derived.ScopeJumps
open Bool renaming and_eq_true → l2
open ByteArray renaming size → lW
open Go.DataW renaming insert → lB
open Go.Ending renaming returned → l9
open Go.Instr renaming loadAt → l3, sureAddr → l4
open Go.Maps renaming size → lN
open Go.Op renaming equalIn → lT
open Go.Proofs.Tryz renaming prog → lA
open Go.Region renaming wanted → lE
open Go.Result renaming andThen_ok → l7
open Go.RowKit.Below renaming refl → nA
open Go.Sem renaming run_bind → l5, run_pure → l6
open List renaming getElem?_cons_zero → lC, getElem?_eq_getElem → lG, length_cons → lH, mem_cons → lI, getElem?_append_left → lK, getElem?_append_right → lL, map_cons → lO, sum_cons → lP, pairwise_cons → lQ, getElem?_eq_some_iff → lS, length_map → lU, mem_filter → lV, mem_map → lX, length_append → l8, getElem_mem → nB
open Nat renaming add_assoc → lF, le_refl → lJ, zero_le → lR, le_trans → lZ, lt_of_lt_of_le → l0, sub_self → l1
open Option.some renaming injEq → lD
open Prod.mk renaming injEq → lY
open UInt8 renaming ofNat → lM
namespace Go.Proofs.YtfdimggmljkkbaaGreatDoor
section
open Go.Proofs.Tryz
section
open Go.Maps
abbrev DM:=DataW Unit
def G6:DM->List UInt8
 | .lit (.string s)=>s
 | _=>[]
def Jg(t:List UInt8):DM:=.lit (.string t)
def Zw(D:DM)(k:List UInt8):Bool:=Maps.has D (.string k)
def fS(D:DM)(k:List UInt8):List UInt8:=G6 (D.atKey (.string k) (Jg []))
def Zx(D:DM)(k t:List UInt8):DM:=D.put (.string k) (Jg t)
def Xf(D:DM)(k:List UInt8):DM:=D.del (.string k)
def Zs(D:DM):Nat:=lN D
def fEs:DM->List (Lit × DM)
 | .map es=>es
 | _=>[]
def Uc(p:Lit × DM):Nat:=(G6 p.2).length
def Yx(D:DM):Nat:=((fEs D).map Uc).sum
def Ud(D:DM):List (List UInt8):=(strKeys D).mergeSort leB
def K7:DM:=.map []
def Yl(D:DM):Prop:=∃ es,D=.map es/\es.Pairwise (fun p q=>p.1 ≠ q.1)/\∀ p ∈ es,∃ k v:List UInt8,p=(.string k,Jg v)
theorem Yl.nil:Yl K7:=⟨[],rfl,List.Pairwise.nil,by simp⟩
theorem Yl.tidy{D:DM}(h:Yl D):Tidy D:=by obtain⟨es,rfl,hp,_⟩:=h;exact⟨es,rfl,hp⟩
theorem Yl.isMap{D:DM}(h:Yl D):IsMap D:=h.tidy.isMap
theorem Z4m(k:List UInt8):WideAt.IsKeyLit (.string k):=trivial
theorem Yl.put{D:DM}(h:Yl D)(k t:List UInt8):Yl (Zx D k t):=by
 have ht:=h.tidy.put (Z4m k) (Jg t);obtain⟨es,rfl,hp,hs⟩:=h;obtain⟨es',he,hp'⟩:=ht;refine⟨es',he,hp',fun p hm=>?_⟩;simp only[DataW.put,DataW.map.injEq] at he;rw[<-he] at hm;have hmem:∀ (l:List (Lit × DM)) (x p),p ∈ lB x l->p=x ∨ p ∈ l:=by
  intro l x p;induction l with
  | nil=>intro h;simp only[lB,List.mem_singleton] at h;exact .inl h
  | cons y r ih =>
   unfold lB;split
   ·intro h;simpa using h
   ·intro h;rcases lI.1 h with h | h
    ·exact .inr (by simp[h])
    ·rcases ih h with h | h
     ·exact .inl h
     ·exact .inr (by simp[h])
 rcases hmem _ _ _ hm with h | h
 ·exact⟨k,t,h⟩
 ·exact hs p (lV.1 h).1
theorem Yl.del{D:DM}(h:Yl D)(k:List UInt8):Yl (Xf D k):=by
 obtain⟨es,rfl,hp,hs⟩:=h;exact⟨_,rfl,hp.filter _,fun p hm=>hs p (lV.1 hm).1⟩
theorem Z8f(f:Lit × DM->Nat)(x:Lit × DM):∀ l:List (Lit × DM),((lB x l).map f).sum=f x+(l.map f).sum
 | []=>by simp[lB]
 | y :: r=>by
  unfold lB;split
  ·simp
  ·simp only[lO,lP,Z8f f x r];omega
theorem Zf8(k:Lit):∀ l:List (Lit × DM),(∀ p ∈ l,p.1 ≠ k)->(l.filter fun p=>!p.1.sameKey k)=l:=fun l h=>by
 rw[List.filter_eq_self];intro p hp;rw[sameKey_ne (h p hp)];rfl
def Q6(l:List (Lit × DM))(k:Lit):DM:=match l.find? (fun p=>p.1.sameKey k) with | some p=>p.2 | none=>Jg []
theorem Z2k(k:Lit):∀ l:List (Lit × DM),l.Pairwise (fun p q=>p.1 ≠ q.1) ->
  ((l.filter fun p=>!p.1.sameKey k).map Uc).sum+(G6 (Q6 l k)).length=(l.map Uc).sum
 | [],_=>by simp[G6,Jg,Q6]
 | p :: r,h=>by
  obtain⟨h1,h2⟩:=lQ.1 h;cases hs:p.1.sameKey k with
  | true =>
   have he:=WideAt.sameKey_eq hs;have hr:=Zf8 k r (fun q hq e=>h1 q hq (by rw[he,e]));rw[List.filter_cons_of_neg (by simp[hs]),hr];simp only[Q6,List.find?_cons_of_pos (p:=fun p:Lit × DM=>p.1.sameKey k) (by simpa using hs),Uc,lO,lP];omega
  | false =>
   rw[List.filter_cons_of_pos (by simp[hs])];have:=Z2k k r h2;have e:Q6 (p :: r) k=Q6 r k:=by simp only[Q6,List.find?_cons_of_neg (p:=fun p:Lit × DM=>p.1.sameKey k) (a:=p) (l:=r) (by simp[hs])]
   rw[e];simp only[lO,lP];omega
theorem Z4n(es:List (Lit × DM))(k:List UInt8):fS (.map es) k=G6 (Q6 es (.string k)):=by
 simp only[fS,Q6,DataW.atKey];cases es.find? (fun p=>p.1.sameKey (.string k)) <;> rfl
theorem Z0v{D:DM}(h:Yl D)(k t:List UInt8):Yx (Zx D k t)+(fS D k).length=Yx D+t.length:=by
 obtain⟨es,rfl,hp,_⟩:=h;have h1:=Z2k (.string k) es hp;have h2:Yx (Zx (.map es) k t)=t.length+((es.filter fun p=>!p.1.sameKey (.string k)).map Uc).sum:=by
  simp only[Yx,Zx,DataW.put,fEs,Z8f];rfl
 have h4:Yx (.map es)=(es.map Uc).sum:=rfl;rw[h2,Z4n,h4];rw[lF,h1,Nat.add_comm]
theorem Z0w{D:DM}(h:Yl D)(k:List UInt8):Yx (Xf D k)+(fS D k).length=Yx D:=by
 obtain⟨es,rfl,hp,_⟩:=h;rw[Z4n];exact Z2k (.string k) es hp
theorem Z8g{a b:List UInt8}(h:a ≠ b):(Lit.string a) ≠ .string b:=fun e=>h (by injection e)
section
variable {D:DM} {k k' t:List UInt8}
theorem Z8h(h:Yl D):Zw (Zx D k t) k=true:=has_put_same h.isMap (Z4m k) _
theorem Z4o(hne:k' ≠ k):Zw (Zx D k t) k'=Zw D k':=has_put_other (Z8g hne) _
theorem Z8i(h:Yl D):fS (Zx D k t) k=t:=by
 unfold fS Zx;rw[atKey_put_same h.isMap (Z4m k)];rfl
theorem Z8j:Zw (Xf D k) k=false:=has_del_same
theorem Zf9(hne:k' ≠ k):Zw (Xf D k) k'=Zw D k':=has_del_other (Z8g hne)
theorem Z8k(h:Zw D k=false):fS D k=[]:=by unfold fS;rw[atKey_of_not_has h];rfl
theorem Z4p(h:Yl D):Zs (Zx D k t)=if Zw D k then Zs D else Zs D+1:=size_put h.tidy _
theorem Z2l(h:Yl D):Zs (Xf D k)+(if Zw D k then 1 else 0)=Zs D:=size_del h.tidy
theorem Z4q(h:Yl D):Zs (Zx D k t)<=Zs D+1:=by rw[Z4p h];split <;> omega
theorem Z8l(h:Yl D):Zs (Xf D k)<=Zs D:=by have:=Z2l (k:=k) h;omega
end
theorem Z8m(D:DM):(Ud D).Perm (strKeys D):=List.mergeSort_perm _ _
theorem Zfa(D:DM):(Ud D).length=Zs D:=by
 rw[(Z8m D).length_eq];cases D <;> simp[strKeys,Zs,lN]
inductive DOp where
 | write (s t:List UInt8)
 | remove (s:List UInt8)
 | rename (s t:List UInt8)
def O5(t:List UInt8)(k:Int):List UInt8:=if 1<k then t.take ((k - 2) % ((t.length:Int)+1)).toNat else t
def DOp.act:DOp->Int->DM->DM
 | .write s t,k,D=>Zx D s (O5 t k)
 | .remove s,_,D=>Xf D s
 | .rename s t,_,D=>if Zw D s then Zx (Xf D s) t (fS D s) else D
def DOp.ok:DOp->Prop
 | .write s t=>s.length<=80/\t.length<=16777216
 | .remove s=>s.length<=80
 | .rename s t=>s.length<=80/\t.length<=80
theorem DOp.act_str{D:DM}(h:Yl D)(o:DOp)(k:Int):Yl (o.act k D):=by
 cases o with
 | write s t=>exact h.put _ _
 | remove s=>exact h.del _
 | rename s t =>
  simp only[DOp.act];split
  ·exact (h.del _).put _ _
  ·exact h
theorem Zfb{D:DM}(h:Yl D)(s t:List UInt8)(hs:Zw D s=true):Zs (Zx (Xf D s) t (fS D s))<=Zs D:=by
 have h1:=Z4q (k:=t) (t:=fS D s) (h.del s);have h2:=Z2l (k:=s) h;rw[hs] at h2;simp at h2;omega
structure DS where
 now:DM
 sure:DM
 pend:List DOp
 room:Int
 fuse:Int
 off:Bool
def Y1(s:List UInt8):Bool:=decide (1<=s.length) && decide (s.length<=80)
def DS.tick(S:DS):DS:=if S.off then S else { S with off:=decide (S.fuse=0),fuse:=max (S.fuse - 1) (-1) }
def DS.powE(S:DS):Int:=if S.tick.off then 15 else 0
def DS.powR(S:DS):Int:=if S.off then 15 else 0
def DS.does(S:DS)(o:DOp):DS:={ S with now:=o.act 1 S.now,pend:=S.pend++[o] }
def Kw(S:DS)(s t:List UInt8):Bool:=decide (S.room - (t.length:Int)<(Yx S.now:Int) - ((fS S.now s).length:Int)) || decide (600<Zs S.now+(if Zw S.now s then 0 else 1))
inductive Call where
 | write (s t:List UInt8)
 | remove (s:List UInt8)
 | rename (s t:List UInt8)
 | sync
def Call.err(S:DS):Call->Int
 | .write s t=>if Y1 s then (if Kw S s t then 14 else 0) else 11
 | .remove s=>if Y1 s then (if Zw S.now s then 0 else 5) else 11
 | .rename s t=>if Y1 s && Y1 t then (if Zw S.now s then 0 else 5) else 11
 | .sync=>0
def Call.done(S:DS):Call->DS
 | .write s t=>S.does (.write s t)
 | .remove s=>S.does (.remove s)
 | .rename s t=>S.does (.rename s t)
 | .sync=>{ S with sure:=S.now,pend:=[] }
def Call.errno(c:Call)(S:DS):Int:=if S.tick.off then 15 else c.err S.tick
def Call.turn(c:Call)(S:DS):DS:=if S.tick.off then S.tick else if c.err S.tick=0 then c.done S.tick else S.tick
def DS.new(room:Int):DS:=⟨K7,K7,[],room,-1,false⟩
structure DS.Fit (S:DS):Prop where
 now:Yl S.now
 sure:Yl S.sure
 ops:∀ o ∈ S.pend,o.ok
 room0:0<=S.room
 room1:S.room<=16777216
 fuse0:-1<=S.fuse
 fuse1:S.fuse<=1000000
structure DS.Good (S:DS):Prop extends S.Fit where
 sum:(Yx S.now:Int)<=S.room
 few:Zs S.now<=600
 few':Zs S.sure<=600
def DS.readE(S:DS)(s:List UInt8):Int:=if S.off then 15 else if Y1 s then (if Zw S.now s then 0 else 5) else 11
def DS.readT(S:DS)(s:List UInt8):List UInt8:=if S.off then [] else if Y1 s then fS S.now s else []
end
section
open Go.RowKit Go.Maps Go.ChangeMaps Go.WideMaps
def Z0(s:List UInt8):Value:=.string ⟨s.toArray⟩
theorem Vr:Keyed lA 9:=string_keyed underlying9
theorem Z8n(w:World):(zeroValue 9).run lA w=.ok (Z0 []) w:=by kernel_rfl
theorem G7(k:List UInt8)(hk:k.length<=maxLen):keyOf lA 9 (Z0 k)=some (.string k):=by
 have:=keyOf_string_mk (P:=lA) (k:=9) (s:=⟨k.toArray⟩) underlying9 (by simpa[lW] using hk);simpa[Z0] using this
theorem Z0x(t:List UInt8)(ht:t.length<=maxLen):plainElem (H:=Unit) lA 9 (Z0 t)=some (Jg t,[]):=by
 have:=plainElem_string (H:=Unit) (P:=lA) (e:=9) (s:=⟨t.toArray⟩) underlying9 (by simpa[lW] using ht);simpa[Z0,Jg] using this
theorem Z0y{v:Value}{z:DM × List MemPlace}(h:plainElem (H:=Unit) lA 9 v=some z):∃ t,v=Z0 t/\z=(Jg t,[])/\t.length<=maxLen:=by
 obtain⟨s,rfl,rfl,hs⟩:=plainElem_string_inv underlying9 h;exact⟨s.data.toList,by simp[Z0],rfl,by rw[Array.length_toList];exact hs⟩
def Zq(w:World)(b:Nat)(D:DM):Prop:=w.ownsMap lA 9 (plainElem lA 9) b (Zs D) D
section
variable {w w':World} {b n:Nat} {D:DM} {k t:List UInt8}
theorem Zq.of(h:w.ownsMap lA 9 (plainElem lA 9) b n D):Zq w b D:=by
 obtain⟨es,clock,hb,F,_,rfl⟩:=h;exact⟨es,clock,hb,F,by simp[Zs,lN,length_sorted],rfl⟩
theorem Zq.str(h:Zq w b D):Yl D:=by
 obtain⟨es,rfl,hp,_⟩:=World.ownsMap.entries h Vr;refine⟨es,rfl,hp,fun p hm=>?_⟩;obtain⟨es',clock,_,F,_,he⟩:=h;have he':es=(es'.toList.map (WideElems.rg lA 9 (plainElem (H:=Unit) lA 9))).foldr lB []:=by injection he
 rw[he'] at hm;obtain⟨x,hx,rfl⟩:=lX.1 (mem_sorted.1 hm);obtain⟨y,hy⟩:=F.reads x hx;rw[WideElems.rg_of hy];obtain⟨z,hz,he2⟩:=WideElems.rd_val hy;obtain⟨t,_,rfl,_⟩:=Z0y hz;obtain⟨q,_,hq,_⟩:=Maps.keyOf_str underlying9 (WideElems.rd_key hy);exact⟨q,t,by rw[<-hq];exact Prod.ext rfl he2⟩
theorem Zq.lt(h:Zq w b D):b<w.heap.size:=World.ownsMap.lt h
theorem Zq.block(h:Zq w b D)(hb:w'.heap[b]?=w.heap[b]?):Zq w' b D:=by
 obtain⟨es,clock,hb',r⟩:=h;exact⟨es,clock,hb.trans hb',r⟩
theorem Zq.at(h:Zq w b D):∃ es clock,w.heap[b]?=some (.map es clock):=by
 obtain⟨es,clock,hb',r⟩:=h;exact⟨es,clock,hb'⟩
theorem Zq.val(k:List UInt8){v:Value}{ps:List MemPlace}(hv:plainElem (H:=Unit) lA 9 v=some (D.atKey (.string k) (Jg []),ps)):v=Z0 (fS D k):=by
 obtain⟨t,rfl,he,_⟩:=Z0y hv;simp only[lY] at he;unfold fS;rw[he.1];rfl
theorem Zq.look(h:Zq w b D)(hk:k.length<=maxLen):(Instr.lookup 61 (.map (some b)) (Z0 k) true).run lA w=.ok (.tuple #[Z0 (fS D k),.bool (Zw D k)]) w:=by
 obtain⟨v,ps,hr,hv⟩:=World.ownsMap.look_ok h Vr underlying61 (Z8n w) (Z0x [] (lR _)) (G7 k hk);rw[hr,Zq.val k hv];rfl
theorem Zq.text_le(h:Zq w b D)(hk:k.length<=maxLen):(fS D k).length<=maxLen:=by
 obtain⟨v,ps,hr,hv⟩:=World.ownsMap.look_ok h Vr underlying61 (Z8n w) (Z0x [] (lR _)) (G7 k hk);obtain⟨t,rfl,he,ht⟩:=Z0y hv;simp only[lY] at he;unfold fS;rw[he.1];exact ht
end
structure Touch (L:List Nat) (w w':World):Prop where
 os:w'.os=w.os
 tape:w'.tape=w.tape
 output:w'.output=w.output
 size:w.heap.size<=w'.heap.size
 block:∀ i,i<w.heap.size->i ∉ L->w'.heap[i]?=w.heap[i]?
section
variable {L L':List Nat} {w w1 w':World}
theorem Touch.refl(L:List Nat)(w:World):Touch L w w:=⟨rfl,rfl,rfl,lJ _,fun _ _ _=>rfl⟩
theorem Touch.trans(h:Touch L w w1)(h':Touch L' w1 w')(hL:∀ i ∈ L',i ∈ L ∨ w.heap.size<=i):Touch L w w' :=
 ⟨h'.os.trans h.os,h'.tape.trans h.tape,h'.output.trans h.output,lZ h.size h'.size,fun i hi hn=>(h'.block i (l0 hi h.size) (fun hm=>by
  rcases hL i hm with h1 | h1
  ·exact hn h1
  ·omega)).trans (h.block i hi hn)⟩
theorem Touch.mono(h:Touch L w w')(hL:∀ i ∈ L,i ∈ L' ∨ w.heap.size<=i):Touch L' w w':=⟨h.os,h.tape,h.output,h.size,fun i hi hn=>h.block i hi (fun hm=>by
 rcases hL i hm with h1 | h1
 ·exact hn h1
 ·omega)⟩
theorem Touch.grown{row:Option Nat}(h:w.grownBy w' row)(hr:∀ b,row=some b->b ∈ L):Touch L w w' :=
 ⟨h.os,h.tape,h.output,h.size,fun i hi hn=>h.block i hi (fun e=>hn (hr i e.symm))⟩
theorem Touch.ofBelow(h:Below w.heap.size w w'):Touch L w w':=⟨h.os,h.tape,h.output,h.size,fun i hi _=>h.block i hi⟩
theorem Touch.below{B:Nat}(h:Touch L w w')(hB:B<=w.heap.size)(hL:∀ i ∈ L,B<=i):Below B w w' :=
 ⟨h.os,h.tape,h.output,h.size,fun i hi=>h.block i (l0 hi hB) (fun hm=>by have:=hL i hm;omega)⟩
theorem Touch.drewN(n:Nat):Touch L w (w.drewN n):=⟨rfl,rfl,rfl,lJ _,fun _ _ _=>rfl⟩
theorem Touch.setCell{g i:Nat}(u:Value)(hg:g ∈ L):Touch L w (w.setCell ⟨g,i,none⟩ u) :=
 ⟨rfl,rfl,rfl,by simp,fun k _ hn=>Below.heap_setCell w ⟨g,i,none⟩ u k (fun e=>hn (by have : k=g:=e;rw[this];exact hg))⟩
theorem Touch.alloc(o:Obj):Touch L w (w.alloc o):=Touch.grown (World.grownBy_alloc w o none) (by simp)
theorem Blk.touch{g:Nat}{t:TypeId}{cs:List Value}(h:Blk w g t cs)(ht:Touch L w w')(hg:g ∉ L):Blk w' g t cs:=(ht.block g h.lt hg).trans h
theorem Zq.touch{b:Nat}{D:DM}(h:Zq w b D)(ht:Touch L w w')(hg:b ∉ L):Zq w' b D:=h.block (ht.block b h.lt hg)
theorem Zk{base:Nat}{e:TypeId}{size:Nat}{v:Value}{n:Nat}{xs:List Value}(h:w.ownsRow base e size v n xs)(ht:Touch L w w')(hv:∀ b,v.ownBlock=some b->b ∉ L):w'.ownsRow base e size v n xs:=by
 obtain⟨h1,h2⟩:=h;refine⟨h1,?_⟩;rcases h2 with h2 | ⟨g,cap,cur,rfl,hb,hg,r⟩
 ·exact .inl h2
 ·have hlt:g<w.heap.size:=(Array.getElem?_eq_some_iff.1 hg).1;exact .inr ⟨g,cap,cur,rfl,hb,(ht.block g hlt (hv g rfl)).trans hg,r⟩
end
def Ue(w:World):DOp->Value->Prop
 | .write s t,v=>∃ a b,v=.func (.func 120) #[] #[.pointer (some ⟨a,0,none⟩),.pointer (some ⟨b,0,none⟩)]/\Blk w a 9 [Z0 t]/\Blk w b 9 [Z0 s]
 | .remove s,v=>∃ a,v=.func (.func 128) #[] #[.pointer (some ⟨a,0,none⟩)]/\Blk w a 9 [Z0 s]
 | .rename s t,v=>∃ a b,v=.func (.func 122) #[] #[.pointer (some ⟨a,0,none⟩),.pointer (some ⟨b,0,none⟩)]/\Blk w a 9 [Z0 s]/\Blk w b 9 [Z0 t]
def Qu(w:World)(L:List Nat):Prop:=∀ i ∈ L,∀ cs,¬ Blk w i 9 cs
theorem Ue.touch{w w':World}{L:List Nat}{o:DOp}{v:Value}(h:Ue w o v)(ht:Touch L w w')(hL:Qu w L):Ue w' o v:=by
 cases o with
 | write s t =>
  obtain⟨a,b,e,h1,h2⟩:=h;exact⟨a,b,e,h1.touch ht (fun hm=>hL a hm _ h1),h2.touch ht (fun hm=>hL b hm _ h2)⟩
 | remove s =>
  obtain⟨a,e,h1⟩:=h;exact⟨a,e,h1.touch ht (fun hm=>hL a hm _ h1)⟩
 | rename s t =>
  obtain⟨a,b,e,h1,h2⟩:=h;exact⟨a,b,e,h1.touch ht (fun hm=>hL a hm _ h1),h2.touch ht (fun hm=>hL b hm _ h2)⟩
theorem Ue.one{w:World}{o:DOp}{v:Value}(h:Ue w o v):v.oneCell'=true:=by
 cases o with
 | write s t=>obtain⟨a,b,rfl,_⟩:=h;rfl
 | remove s=>obtain⟨a,rfl,_⟩:=h;rfl
 | rename s t=>obtain⟨a,b,rfl,_⟩:=h;rfl
def Vs(w:World)(os:List DOp)(vs:List Value):Prop:=os.length=vs.length/\∀ (i:Nat) o v,os[i]?=some o->vs[i]?=some v->Ue w o v
theorem Vs.touch{w w':World}{L:List Nat}{os:List DOp}{vs:List Value}(h:Vs w os vs)(ht:Touch L w w')(hL:Qu w L):Vs w' os vs :=
 ⟨h.1,fun i o v ho hv=>(h.2 i o v ho hv).touch ht hL⟩
theorem Vs.snoc{w:World}{os:List DOp}{vs:List Value}{o:DOp}{v:Value}(h:Vs w os vs)(ho:Ue w o v):Vs w (os++[o]) (vs++[v]):=by
 refine⟨by simp[h.1],fun i o' v' h1 h2=>?_⟩;by_cases hi:i<os.length
 ·rw[lK hi] at h1;rw[lK (h.1 ▸ hi)] at h2;exact h.2 i o' v' h1 h2
 ·rw[lL (by omega)] at h1;rw[lL (by have:=h.1;omega)] at h2;have hl:i=os.length:=by
   have:=(lS.1 h1).1;simp at this;omega
  subst hl;simp only[l1,lC,lD] at h1;rw[h.1] at h2;simp only[l1,lC,lD] at h2;subst h1;subst h2;exact ho
def Uf(bn bs:Nat)(v:Value)(S:DS):List Value:=[.map (some bn),.map (some bs),v,.int .i64 S.room,.int .i64 S.fuse,.bool S.off]
structure DiskAt (w:World) (g bn bs:Nat) (v:Value) (S:DS):Prop where
 blk:Blk w g 64 (Uf bn bs v S)
 now:Zq w bn S.now
 sure:Zq w bs S.sure
 ne:bn ≠ bs
 row:∃ vs,w.ownsRow 0 224 1 v S.pend.length vs/\Vs w S.pend vs
def Zh(g bn bs:Nat)(v:Value):List Nat:=g :: bn :: bs :: v.ownBlock.toList
def J4(w:World)(L:List Nat)(g:Nat)(S:DS):Prop:=∃ bn bs v,DiskAt w g bn bs v S/\L=Zh g bn bs v
def Yt(w:World)(L:List Nat)(g:Nat)(S:DS)(w':World):Prop:=Touch L w w'/\∃ L',J4 w' L' g S/\∀ i ∈ L',i ∈ L ∨ w.heap.size<=i
section
variable {w w':World} {L M:List Nat} {g bn bs:Nat} {v:Value} {S S':DS}
theorem DiskAt.mem_foot{i:Nat}(hi:i ∈ Zh g bn bs v):i=g ∨ i=bn ∨ i=bs ∨ v.ownBlock=some i:=by
 simp only[Zh,lI,Option.mem_toList] at hi;exact hi
theorem DiskAt.tag(h:DiskAt w g bn bs v S){b:Nat}{t:TypeId}{cs:List Value}(hB:Blk w b t cs)(h1:t ≠ 64)(h2:t ≠ 224):b ∉ Zh g bn bs v:=by
 intro hm;rcases DiskAt.mem_foot hm with rfl | rfl | rfl | e
 ·exact hB.ne_ h.blk h1 rfl
 ·obtain⟨es,c,he⟩:=h.now.at;unfold Blk at hB;rw[he] at hB;cases hB
 ·obtain⟨es,c,he⟩:=h.sure.at;unfold Blk at hB;rw[he] at hB;cases hB
 ·obtain⟨vs,ho,_⟩:=h.row;rcases ho.2 with ⟨rfl,_⟩ | ⟨g',cap,cur,rfl,_,hg,_⟩
  ·cases e
  ·have : g'=b:=by simpa[Value.ownBlock] using e
   subst this;unfold Blk at hB;rw[hg] at hB
   injection hB with hB
   injection hB with _ ht
   exact h2 ht.symm
theorem DiskAt.noBox(h:DiskAt w g bn bs v S):Qu w (Zh g bn bs v):=fun i hi cs hB=>h.tag hB (by decide) (by decide) hi
theorem DiskAt.lt(h:DiskAt w g bn bs v S):∀ i ∈ Zh g bn bs v,i<w.heap.size:=by
 intro i hi;rcases DiskAt.mem_foot hi with rfl | rfl | rfl | e
 ·exact h.blk.lt
 ·exact h.now.lt
 ·exact h.sure.lt
 ·obtain⟨vs,ho,_⟩:=h.row;exact (ho.lt i e).2
theorem J4.lt(h:J4 w L g S):∀ i ∈ L,i<w.heap.size:=by
 obtain⟨bn,bs,v,hd,rfl⟩:=h;exact hd.lt
theorem DiskAt.touch(h:DiskAt w g bn bs v S)(ht:Touch M w w')(hd:∀ i ∈ Zh g bn bs v,i ∉ M)(hb:Qu w M):DiskAt w' g bn bs v S:=by
 refine⟨h.blk.touch ht (hd g (by simp[Zh])),h.now.touch ht (hd bn (by simp[Zh])),h.sure.touch ht (hd bs (by simp[Zh])),h.ne,?_⟩;obtain⟨vs,ho,hop⟩:=h.row;exact⟨vs,Zk ho ht (fun b hb'=>hd b (by simp[Zh,hb'])),hop.touch ht hb⟩
theorem J4.touch(h:J4 w L g S)(ht:Touch M w w')(hd:∀ i ∈ L,i ∉ M)(hb:Qu w M):J4 w' L g S:=by
 obtain⟨bn,bs,v,h1,rfl⟩:=h;exact⟨bn,bs,v,h1.touch ht hd hb,rfl⟩
theorem J4.below(h:J4 w L g S)(hb:Below w.heap.size w w'):J4 w' L g S:=h.touch (M:=[]) (Touch.ofBelow hb) (by simp) (by simp[Qu])
theorem DiskAt.below(h:DiskAt w g bn bs v S)(hb:Below w.heap.size w w'):DiskAt w' g bn bs v S:=h.touch (M:=[]) (Touch.ofBelow hb) (by simp) (by simp[Qu])
theorem Yt.same(h:J4 w L g S)(hb:Below w.heap.size w w'):Yt w L g S w':=⟨Touch.ofBelow hb,L,h.below hb,fun _ hi=>.inl hi⟩
theorem Yt.then{w1:World}(h:Touch L w w1)(hs:∀ i ∈ M,i ∈ L ∨ w.heap.size<=i)(h':Yt w1 M g S w'):Yt w L g S w':=by
 obtain⟨ht,L',hd,hL⟩:=h';refine⟨h.trans ht hs,L',hd,fun i hi=>?_⟩;rcases hL i hi with h1 | h1
 ·exact hs i h1
 ·exact .inr (lZ h.size h1)
end
section
variable {P:Program} (w:World)
theorem Zfc(t k e:TypeId)(p:Option Nat)(h:P.underlying t=some (.map k e)):(binOp .neq t (.map p) (.map none)).run P w=.ok (.bool (!p.isNone)) w:=by
 simp only[binOp];have h1:∀ d,(lT (d+1) t (.map p) (.map none)).run P w=.ok p.isNone w:=fun d=>by cases p <;> simp[lT,run_underlying h]
 simp[show Op.equal t (.map p) (.map none)=lT (9999+1) t (.map p) (.map none) from rfl,h1 9999]
end
end
end
section
set_option maxRecDepth 100000
set_option maxHeartbeats 1000000
open Go.Lib renaming hid → iD
open Go.Proofs.Tryz
section
abbrev Str:=List UInt8
structure Br where
 name:Str
 heads:List Str
abbrev Tab:=List Br
structure Chg where
 name:Str
 old:List Str
 new:List Str
def Xt(c:UInt8):Bool:=(65<=c && c<=90) || (97<=c && c<=122) || (48<=c && c<=57) || c == 45 || c == 95 || c == 46 || c == 35 || c == 64 || c == 126
def Yi(s:Str):Bool:=s.all Xt && decide (1<=s.length) && decide (s.length<=24)
def rises:List Str->Bool
 | a :: b :: r=>Ze a b && rises (b :: r)
 | _=>true
def Ym(l:List Str):Int:=if 8<l.length then 4 else if rises l then 0 else 7
def Gy:Option Str->Str->Bool
 | none,_=>true
 | some p,n=>Ze p n
def J5:Option Str->Tab->Int
 | _,[]=>0
 | p,b :: r=>if Yi b.name then (if Gy p b.name then (if b.heads=[] then 5 else if Ym b.heads=0 then J5 (some b.name) r else Ym b.heads) else 7) else 11
def Yu(l:Tab):Int:=if 32<l.length then 4 else J5 none l
def K8(l:List Str):Str:=l.flatMap fun d=>32 :: Xy d
def Gz(b:Br):Str:=b.name++K8 b.heads++[10]
def Jh(l:Tab):Str:=l.flatMap Gz
def hOk(l:List Str):Prop:=∀ d ∈ l,d.length=32
def tOk(l:Tab):Prop:=∀ b ∈ l,hOk b.heads
def cOk(l:List Chg):Prop:=∀ c ∈ l,hOk c.old/\hOk c.new
theorem Z2m(a:Str):Ze a a=false:=G5 a
theorem Z4r(x y:UInt8)(a b:Str):Ze (x :: a) (y :: b)=(decide (x<y) || (x == y && Ze a b)):=by
 unfold Ze;rw[Op.bytesLess]
theorem Qv:∀ (a b c:Str),Ze a b=true->Ze b c=true->Ze a c=true
 | [],[],_,h,_=>by cases h
 | [],_ :: _,[],_,h=>by cases h
 | [],_ :: _,_ :: _,_,_=>rfl
 | _ :: _,[],_,h,_=>by cases h
 | _ :: _,_ :: _,[],_,h=>by cases h
 | x :: a,y :: b,z :: c,h1,h2=>by
  rw[Z4r] at h1 h2 ⊢;simp only[Bool.or_eq_true,decide_eq_true_eq,l2,beq_iff_eq] at h1 h2 ⊢;rcases h1 with h1 | ⟨rfl,h1⟩
  ·rcases h2 with h2 | ⟨rfl,_⟩
   ·exact .inl (UInt8.lt_trans h1 h2)
   ·exact .inl h1
  ·rcases h2 with h2 | ⟨rfl,h2⟩
   ·exact .inl h2
   ·exact .inr ⟨rfl,Qv a b c h1 h2⟩
theorem Z4s(a b:Str)(h:Ze a b=true):Ze b a=false:=by
 cases hb:Ze b a with
 | false=>rfl
 | true=>have:=Qv _ _ _ h hb;rw[Z2m] at this;cases this
theorem O6:∀ (a b:Str),Ze a b=false->Ze b a=false->a=b
 | [],[],_,_=>rfl
 | [],_ :: _,h,_=>by cases h
 | _ :: _,[],_,h=>by cases h
 | x :: a,y :: b,h1,h2=>by
  rw[Z4r] at h1 h2;simp only[Bool.or_eq_false_iff,decide_eq_false_iff_not,Bool.and_eq_false_imp,beq_iff_eq] at h1 h2;have hxy:x=y:=by
   have g1:=h1.1;have g2:=h2.1;rw[UInt8.lt_iff_toNat_lt] at g1 g2;exact UInt8.toNat_inj.1 (by omega)
  subst hxy;rw[O6 a b (h1.2 rfl) (h2.2 rfl)]
theorem Z0z{a b:Str}(h:Ze a b=true):a ≠ b:=fun e=>by rw[e,Z2m] at h;cases h
theorem Zfd{p:Option Str}{b:Br}{r:Tab}(h:J5 p (b :: r)=0):Yi b.name=true/\Gy p b.name=true/\b.heads ≠ []/\Ym b.heads=0/\J5 (some b.name) r=0:=by
 simp only[J5] at h;split at h <;> rename_i h1
 ·split at h <;> rename_i h2
  ·split at h <;> rename_i h3
   ·cases h
   ·split at h <;> rename_i h4
    ·exact⟨h1,h2,h3,h4,h⟩
    ·exact absurd h h4
  ·cases h
 ·cases h
def sorted(l:Tab):Prop:=l.Pairwise fun a b=>Ze a.name b.name=true
def bOk(b:Br):Prop:=Yi b.name=true/\b.heads ≠ []/\Ym b.heads=0
theorem Z4t:∀ (l:Tab) (p:Option Str),J5 p l=0 ↔ ((∀ b ∈ l,bOk b)/\sorted l/\∀ q,p=some q->∀ b ∈ l,Ze q b.name=true)
 | [],p=>by simp[J5,sorted]
 | b :: r,p=>by
  constructor
  ·intro h;obtain⟨h1,h2,h3,h4,h5⟩:=Zfd h;obtain⟨g1,g2,g3⟩:=(Z4t r _).1 h5;refine⟨fun x hx=>?_,lQ.2 ⟨fun x hx=>g3 _ rfl x hx,g2⟩,fun q hq x hx=>?_⟩
   ·rcases lI.1 hx with rfl | hx
    ·exact⟨h1,h3,h4⟩
    ·exact g1 x hx
   ·subst hq;rcases lI.1 hx with rfl | hx
    ·exact h2
    ·exact Qv _ _ _ h2 (g3 _ rfl x hx)
  ·rintro ⟨h1,h2,h3⟩;obtain⟨g1,g2⟩:=lQ.1 h2;obtain⟨k1,k2,k3⟩:=h1 b (by simp);have hp:Gy p b.name=true:=by
    cases p with
    | none=>rfl
    | some q=>exact h3 q rfl b (by simp)
   simp only[J5];rw[if_pos k1,if_pos hp,if_neg k2,if_pos k3];exact (Z4t r _).2 ⟨fun x hx=>h1 x (by simp[hx]),g2,fun q hq x hx=>by cases hq;exact g1 x hx⟩
theorem O7(l:Tab):Yu l=0 ↔ (l.length<=32/\(∀ b ∈ l,bOk b)/\sorted l):=by
 unfold Yu;split
 ·constructor
  ·intro h;cases h
  ·rintro ⟨h,_⟩;omega
 ·rw[Z4t];constructor
  ·rintro ⟨h1,h2,_⟩;exact⟨by omega,h1,h2⟩
  ·rintro ⟨_,h1,h2⟩;exact⟨h1,h2,by simp⟩
def Z4(l:Tab)(n:Str):List Str:=match l.find? (fun b=>b.name == n) with | some b=>b.heads | none=>[]
def Zm(l:Tab)(n:Str):Nat:=(l.takeWhile fun b=>Ze b.name n).length
def Qw(n:Str)(h:List Str):Bool->Tab->Tab
 | done,[]=>if done then [] else [⟨n,h⟩]
 | done,b :: r=>if done=false/\Ze n b.name=true then ⟨n,h⟩ :: ((if b.name=n then [] else [b])++Qw n h true r) else (if b.name=n then [] else [b])++Qw n h done r
def putT(l:Tab)(n:Str)(h:List Str):Tab:=Qw n h (decide (h=[])) l
def Vt(l:Tab)(ahead:List Chg)(c:Chg):Int :=
 if Yi c.name then (if ahead.any (fun x=>x.name == c.name) then 6 else if Ym c.new=0 then (if Z4 l c.name=c.old then 0 else 12) else Ym c.new) else 11
def Jx(l:Tab):List Chg->List Chg->Int
 | _,[]=>0
 | ahead,c :: r=>if Vt l ahead c=0 then Jx l (ahead++[c]) r else Vt l ahead c
def Vu(l:Tab)(c:List Chg):Tab:=c.foldl (fun l x=>putT l x.name x.new) l
def Yy(l:Tab)(c:List Chg):Int :=
 if Yu l=0 then (if 32<c.length then 4 else if Jx l [] c=0 then (if 32<(Vu l c).length then 4 else 0) else Jx l [] c) else Yu l
def Zu(l:Tab)(c:List Chg):Tab:=if Yy l c=0 then Vu l c else []
end
section
open Go.RowKit
section
variable {P:Program}
theorem Z8o{ops:Array Oper}{rest:List Oper}{o:Oper}{a:Act}{w:World}{Q:Exit->Act->World->Prop}(hw:lE o (yielded ops a.tmps)=true)
  (h:∀ K:Act->World->Prop,(∀ a w,wpList P ops Q rest a w->K a w)->o.wp P a w K Q):wpList P ops Q (o :: rest) a w :=
 wpList_step fun K hK=>by rw[if_pos hw];exact h K hK
theorem Zfe{ops:Array Oper}{rest:List Oper}{o:Oper}{a:Act}{w:World}{Q:Exit->Act->World->Prop}(op:Op)(_ho:o.op=op)(hw:lE o (yielded ops a.tmps)=true)(v:Value)
  (hrun:(execOp a.eval o).run P w=.ok (.value v) w) (h:wpList P ops Q rest (a.put o.dst v) w):wpList P ops Q (o :: rest) a w:=by
 refine Z8o hw fun _ hK=>?_;unfold Oper.wp;rw[hrun];exact hK _ _ h
theorem Z2n{ops:Array Oper}{rest:List Oper}{o:Oper}{a:Act}{C:World->Prop}{Q:Act->Prop}(op:Op)(_ho:o.op=op)(hw:lE o (yielded ops a.tmps)=true)(v:Value)
  (hrun:∀ w,C w->(execOp a.eval o).run P w=.ok (.value v) w) (h:wpQuiet P ops C Q rest (a.put o.dst v)):wpQuiet P ops C Q (o :: rest) a:=by
 refine wpQuiet_step fun K hK=>?_;rw[if_pos hw];exact⟨v,fun w hC=>by unfold Oper.quietAt;rw[hrun w hC];exact⟨rfl,rfl⟩,hK _ h⟩
theorem Vv{ops:Array Oper}{rest:List Oper}{op:Oper}{a:Act}{w:World}{Q:Exit->Act->World->Prop}(ty:TypeId)(x:Operand)(ho:op.op=.load ty x)(hw:lE op (yielded ops a.tmps)=true)
  (g o:Nat) (hx:a.eval x=.pointer (some ⟨g,o,none⟩)) (part:List Value) (hc:∀ j v,part[j]?=some v->w.cell? ⟨g,o+j,none⟩=some v) (d:TypeDesc)
  (hu:P.underlying ty=some d) (hd:d.isRow=true) (hi:(P.info? ty).map (·.size)=some part.length)
  (h:wpList P ops Q rest (a.put op.dst (.agg part.toArray)) w):wpList P ops Q (op :: rest) a w:=by
 refine Zfe _ ho hw _ ?_ h;unfold execOp;simp only[ho,hx,l3,l4,l5,l6,l7,run_loadVar_mid w g o ty part d hc hu hd hi]
theorem Vw{ops:Array Oper}{rest:List Oper}{op:Oper}{a:Act}{C:World->Prop}{Q:Act->Prop}(ty:TypeId)(x:Operand)(ho:op.op=.load ty x)(hw:lE op (yielded ops a.tmps)=true)
  (g o:Nat) (hx:a.eval x=.pointer (some ⟨g,o,none⟩)) (part:List Value) (hc:∀ w,C w->∀ j v,part[j]?=some v->w.cell? ⟨g,o+j,none⟩=some v) (d:TypeDesc)
  (hu:P.underlying ty=some d) (hd:d.isRow=true) (hi:(P.info? ty).map (·.size)=some part.length)
  (h:wpQuiet P ops C Q rest (a.put op.dst (.agg part.toArray))):wpQuiet P ops C Q (op :: rest) a:=by
 refine Z2n _ ho hw _ (fun w hw=>?_) h;unfold execOp;simp only[ho,hx,l3,l4,l5,l6,l7,run_loadVar_mid w g o ty part d (hc w hw) hu hd hi]
theorem Zff{ops:Array Oper}{rest:List Oper}{o:Oper}{a:Act}{C:World->Prop}{Q:Act->Prop}(x y:Operand)(yt:TypeId)(ho:o.op=.binOp .neq 47 x y yt)(hw:lE o (yielded ops a.tmps)=true)
  (xs ys:List UInt8) (hxe:a.eval x=.agg (xs.map B).toArray) (hye:a.eval y=.agg (ys.map B).toArray) (hx:xs.length=32) (hy:ys.length=32) (r:Bool) (hr:(!(xs == ys))=r)
  (h:wpQuiet lA ops C Q rest (a.put o.dst (.bool r))):wpQuiet lA ops C Q (o :: rest) a :=
 Z2n _ ho hw _ (fun w _=>by rw[Zf6 w ho xs ys hxe hye hx hy,hr]) h
end
section
variable {w w':World} {ok ok':Nat->Prop} {A:Option Addr} {xs:List Value}
theorem Rd.at(h:Rd w ok A xs)(hn:0<xs.length):∃ b o,A=some ⟨b,o,none⟩/\ok b/\b<w.heap.size/\∀ j u,xs[j]?=some u->w.cell? ⟨b,o+j,none⟩=some u:=by
 obtain⟨⟨b,o,spot⟩,rfl,hb,hc⟩:=h hn;have h0:=hc 0 xs[0] (lG hn);have hs:spot=none:=by simpa[Addr.add] using World.cell?_spot h0
 subst hs;refine⟨b,o,rfl,hb,World.block_lt_of_cell? _ _ (by simpa[Addr.add] using h0),fun j u hu=>?_⟩;have:=hc j u hu
 rwa [Xj] at this
theorem Rd.stay(h:Rd w ok A xs)(hk:∀ b,ok b->b<w.heap.size->w'.heap[b]?=w.heap[b]?)(ho:∀ b,ok b->b<w.heap.size->ok' b):Rd w' ok' A xs:=fun hn=>by
 obtain⟨b,o,rfl,hb,hlt,hc⟩:=h.at hn;refine⟨_,rfl,ho b hb hlt,fun j u hu=>?_⟩;rw[Xj,World.cell?_of_block (hk b hb hlt)];exact hc j u hu
theorem Rd.stayB(h:Rd w ok A xs)(hb:Below w.heap.size w w'):Rd w' ok A xs:=h.stay (fun b _ hlt=>hb.block b hlt) (fun _ h _=>h)
end
def Zy(l:List Str):List Value:=l.flatMap fun d=>d.map B
theorem Z4u(d:Str)(l:List Str):Zy (d :: l)=d.map B++Zy l:=by simp[Zy]
theorem Zfg(l:List Str)(d:Str):Zy (l++[d])=Zy l++d.map B:=by simp[Zy]
theorem Vx:∀ {l:List Str},hOk l->(Zy l).length=l.length*32
 | [],_=>rfl
 | d :: l,h=>by
  rw[Z4u,l8,Vx (l:=l) (fun x hx=>h x (by simp[hx])),lU,h d (by simp),lH];omega
theorem Z4v:∀ {l:List Str},hOk l->∀ (k:Nat) (hk:k<l.length) (j:Nat) v,(l[k].map B)[j]?=some v->(Zy l)[k*32+j]?=some v
 | d :: l,h,0,hk,j,v,hv=>by
  rw[Z4u,lK (by have:=(lS.1 hv).1;simpa using this)];simpa using hv
 | d :: l,h,k+1,hk,j,v,hv=>by
  have hd:(d.map B).length=32:=by rw[lU];exact h d (by simp)
  rw[Z4u,lL (by omega),hd,show (k+1)*32+j - 32=k*32+j by omega];exact Z4v (l:=l) (fun x hx=>h x (by simp[hx])) k (by simpa using hk) j v (by simpa using hv)
theorem Z00(l:List Str):∀ v ∈ Zy l,v.oneCell'=true:=by
 intro v hv;unfold Zy at hv;obtain⟨d,_,hd⟩:=List.mem_flatMap.1 hv;obtain⟨x,_,rfl⟩:=lX.1 hd;rfl
def Z7(w:World)(ok:Nat->Prop)(v:Value)(l:List Str):Prop:=∃ A c,v=.slice A l.length c/\l.length<=c/\Rd w ok A (Zy l)
structure HFit (l:List Str):Prop where
 len:l.length<=4398046511104
 ok:hOk l
section
variable {w w':World} {ok ok':Nat->Prop} {v:Value} {l:List Str}
theorem Z7.stay(h:Z7 w ok v l)(hk:∀ b,ok b->b<w.heap.size->w'.heap[b]?=w.heap[b]?)(ho:∀ b,ok b->b<w.heap.size->ok' b):Z7 w' ok' v l:=by
 obtain⟨A,c,e,hc,hr⟩:=h;exact⟨A,c,e,hc,hr.stay hk ho⟩
theorem Z7.stayB(h:Z7 w ok v l)(hb:Below w.heap.size w w'):Z7 w' ok v l:=h.stay (fun b _ hlt=>hb.block b hlt) (fun _ h _=>h)
theorem Z7.dig{A:Option Addr}{n c:Nat}(h:Z7 w ok (.slice A n c) l)(ho:hOk l)(k:Nat)(hk:k<l.length):∃ b o,A=some ⟨b,o,none⟩/\ok b/\b<w.heap.size/\∀ j v,(l[k].map B)[j]?=some v->w.cell? ⟨b,o+k*32+j,none⟩=some v:=by
 obtain⟨A',c',e,hc,hr⟩:=h
 injection e with e1 e2 e3
 subst e1;obtain⟨b,o,rfl,hb,hlt,hcell⟩:=hr.at (by rw[Vx ho];omega);exact⟨b,o,rfl,hb,hlt,fun j v hv=>by rw[lF];exact hcell _ v (Z4v ho k hk j v hv)⟩
end
def Y4:Tab->List Value->List Value
 | b :: T,v :: vs=>Z0 b.name :: v :: Y4 T vs
 | _,_=>[]
theorem Z8p:∀ (T:Tab) (vs:List Value),vs.length=T.length->(Y4 T vs).length=T.length*2
 | [],_,_=>by simp[Y4]
 | b :: T,[],h=>by simp at h
 | b :: T,v :: vs,h=>by
  simp only[Y4,lH,Z8p T vs (by simpa using h)];omega
theorem Z8q:∀ (T:Tab) (vs:List Value),vs.length=T.length->∀ k b v,T[k]?=some b->vs[k]?=some v->(Y4 T vs)[k*2]?=some (Z0 b.name)/\(Y4 T vs)[k*2+1]?=some v
 | [],_,_,k,b,v,h,_=>by simp at h
 | b :: T,[],h,_,_,_,_,_=>by simp at h
 | b :: T,v :: vs,h,0,b',v',h1,h2=>by
  simp only[lC,lD] at h1 h2;subst h1;subst h2;simp[Y4]
 | b :: T,v :: vs,h,k+1,b',v',h1,h2=>by
  have:=Z8q T vs (by simpa using h) k b' v' (by simpa using h1) (by simpa using h2);rw[show (k+1)*2=k*2+1+1 by omega];simpa[Y4] using this
theorem Z10:∀ (T:Tab) (vs:List Value),vs.length=T.length->∀ T' vs',Y4 (T++T') (vs++vs')=Y4 T vs++Y4 T' vs'
 | [],[],_,_,_=>rfl
 | [],_ :: _,h,_,_=>by simp at h
 | b :: T,[],h,_,_=>by simp at h
 | b :: T,v :: vs,h,T',vs'=>by simp[Y4,Z10 T vs (by simpa using h) T' vs']
def TabIs(w:World)(ok:Nat->Prop)(v:Value)(T:Tab):Prop:=∃ A c vs,vs.length=T.length/\v=.slice A T.length c/\T.length<=c/\Rd w ok A (Y4 T vs)/\∀ (k:Nat) b u,T[k]?=some b->vs[k]?=some u->Z7 w ok u b.heads
structure BFit (b:Br):Prop where
 name:b.name.length<=140737488355328
 heads:HFit b.heads
structure TFit (T:Tab):Prop where
 len:T.length<=3518437208832
 ok:∀ b ∈ T,BFit b
section
variable {w w':World} {ok ok':Nat->Prop} {v:Value} {T:Tab}
theorem TabIs.stay(h:TabIs w ok v T)(hk:∀ b,ok b->b<w.heap.size->w'.heap[b]?=w.heap[b]?)(ho:∀ b,ok b->b<w.heap.size->ok' b):TabIs w' ok' v T:=by
 obtain⟨A,c,vs,hl,e,hc,hr,hh⟩:=h;exact⟨A,c,vs,hl,e,hc,hr.stay hk ho,fun k b u h1 h2=>(hh k b u h1 h2).stay hk ho⟩
theorem TabIs.stayB(h:TabIs w ok v T)(hb:Below w.heap.size w w'):TabIs w' ok v T:=h.stay (fun b _ hlt=>hb.block b hlt) (fun _ h _=>h)
theorem TabIs.form(h:TabIs w ok v T):∃ A c,v=.slice A T.length c/\T.length<=c:=by
 obtain⟨A,c,vs,hl,e,hc,_⟩:=h;exact⟨A,c,e,hc⟩
theorem TabIs.nil:TabIs w ok (.slice none 0 0) []:=⟨none,0,[],rfl,rfl,lJ _,Rd.nil,fun k b u h _=>by simp at h⟩
theorem Z7.nil:Z7 w ok (.slice none 0 0) []:=⟨none,0,rfl,lJ _,Rd.nil⟩
theorem TabIs.br{A:Option Addr}{n c:Nat}(h:TabIs w ok (.slice A n c) T)(k:Nat)(hk:k<T.length):∃ b o u,A=some ⟨b,o,none⟩/\ok b/\b<w.heap.size/\Z7 w ok u T[k].heads/\w.cell? ⟨b,o+k*2,none⟩=some (Z0 T[k].name)/\w.cell? ⟨b,o+k*2+1,none⟩=some u:=by
 obtain⟨A',c',vs,hl,e,hc,hr,hh⟩:=h
 injection e with e1 e2 e3
 subst e1;obtain⟨b,o,rfl,hb,hlt,hcell⟩:=hr.at (by rw[Z8p T vs hl];omega);have hv:vs[k]?=some vs[k]:=lG (by omega);have hT:T[k]?=some T[k]:=lG hk;obtain⟨h1,h2⟩:=Z8q T vs hl k _ _ hT hv;exact⟨b,o,vs[k],rfl,hb,hlt,hh k _ _ hT hv,hcell _ _ h1,by have:=hcell _ _ h2;rwa [<- lF] at this⟩
end
section
variable {w w':World} {ok:Nat->Prop} {v:Value}
theorem Z7.ltB{l:List Str}(h:Z7 w ok v l):Z7 w (· < w.heap.size) v l:=h.stay (fun _ _ _=>rfl) (fun _ _ hlt=>hlt)
theorem TabIs.ltB{T:Tab}(h:TabIs w ok v T):TabIs w (· < w.heap.size) v T:=h.stay (fun _ _ _=>rfl) (fun _ _ hlt=>hlt)
theorem Z7.low{B:Nat}{l:List Str}(h:Z7 w (· < B) v l)(hb:Below B w w'):Z7 w' (· < B) v l:=h.stay (fun b hlt _=>hb.block b hlt) (fun _ h _=>h)
theorem TabIs.low{B:Nat}{T:Tab}(h:TabIs w (· < B) v T)(hb:Below B w w'):TabIs w' (· < B) v T:=h.stay (fun b hlt _=>hb.block b hlt) (fun _ h _=>h)
end
theorem Z11{w:World}{b o:Nat}{x y:Value}(h1:w.cell? ⟨b,o,none⟩=some x)(h2:w.cell? ⟨b,o+1,none⟩=some y):∀ j v,[x,y][j]?=some v->w.cell? ⟨b,o+j,none⟩=some v:=by
 intro j v hv
 match j,hv with
 | 0,hv=>simp only[lC,lD] at hv;subst hv;exact h1
 | 1,hv=>simp only[List.getElem?_cons_succ,lC,lD] at hv;subst hv;exact h2
def K9:List Chg->List (Value × Value)->List Value
 | c :: C,v :: vs=>Z0 c.name :: v.1 :: v.2 :: K9 C vs
 | _,_=>[]
theorem Z4w:∀ (C:List Chg) (vs:List (Value × Value)),vs.length=C.length->(K9 C vs).length=C.length*3
 | [],_,_=>by simp[K9]
 | b :: T,[],h=>by simp at h
 | b :: T,v :: vs,h=>by
  simp only[K9,lH,Z4w T vs (by simpa using h)];omega
theorem Z8r:∀ (C:List Chg) (vs:List (Value × Value)),vs.length=C.length->∀ k b v,C[k]?=some b->vs[k]?=some v->∀ j u,[Z0 b.name,v.1,v.2][j]?=some u->(K9 C vs)[k*3+j]?=some u
 | [],_,_,k,b,v,h,_=>by simp at h
 | b :: T,[],h,_,_,_,_,_=>by simp at h
 | b :: T,v :: vs,h,0,b',v',h1,h2=>by
  simp only[lC,lD] at h1 h2;subst h1;subst h2;intro j u hu
  match j,hu with
  | 0,hu=>simpa[K9] using hu
  | 1,hu=>simpa[K9] using hu
  | 2,hu=>simpa[K9] using hu
 | b :: T,v :: vs,h,k+1,b',v',h1,h2=>by
  intro j u hu;have:=Z8r T vs (by simpa using h) k b' v' (by simpa using h1) (by simpa using h2) j u hu;rw[show (k+1)*3+j=k*3+j+1+1+1 by omega];simpa[K9] using this
theorem Z8s:∀ (T:List Chg) (vs:List (Value × Value)),vs.length=T.length->∀ T' vs',K9 (T++T') (vs++vs')=K9 T vs++K9 T' vs'
 | [],[],_,_,_=>rfl
 | [],_ :: _,h,_,_=>by simp at h
 | b :: T,[],h,_,_=>by simp at h
 | b :: T,v :: vs,h,T',vs'=>by simp[K9,Z8s T vs (by simpa using h) T' vs']
def Yz(w:World)(ok:Nat->Prop)(v:Value)(C:List Chg):Prop:=∃ A c vs,vs.length=C.length/\v=.slice A C.length c/\C.length<=c/\Rd w ok A (K9 C vs)/\∀ (k:Nat) b u,C[k]?=some b->vs[k]?=some u->Z7 w ok u.1 b.old/\Z7 w ok u.2 b.new
structure CFit1 (c:Chg):Prop where
 name:c.name.length<=140737488355328
 old:HFit c.old
 new:HFit c.new
structure CFit (C:List Chg):Prop where
 len:C.length<=2199023255552
 ok:∀ c ∈ C,CFit1 c
section
variable {w w':World} {ok ok':Nat->Prop} {v:Value} {C:List Chg}
theorem Yz.stay(h:Yz w ok v C)(hk:∀ b,ok b->b<w.heap.size->w'.heap[b]?=w.heap[b]?)(ho:∀ b,ok b->b<w.heap.size->ok' b):Yz w' ok' v C:=by
 obtain⟨A,c,vs,hl,e,hc,hr,hh⟩:=h;exact⟨A,c,vs,hl,e,hc,hr.stay hk ho,fun k b u h1 h2=>⟨(hh k b u h1 h2).1.stay hk ho,(hh k b u h1 h2).2.stay hk ho⟩⟩
theorem Yz.stayB(h:Yz w ok v C)(hb:Below w.heap.size w w'):Yz w' ok v C:=h.stay (fun b _ hlt=>hb.block b hlt) (fun _ h _=>h)
theorem Yz.form(h:Yz w ok v C):∃ A c,v=.slice A C.length c/\C.length<=c:=by
 obtain⟨A,c,vs,hl,e,hc,_⟩:=h;exact⟨A,c,e,hc⟩
theorem Yz.ch{A:Option Addr}{n c:Nat}(h:Yz w ok (.slice A n c) C)(k:Nat)(hk:k<C.length):∃ b o x y,A=some ⟨b,o,none⟩/\ok b/\b<w.heap.size/\Z7 w ok x C[k].old/\Z7 w ok y C[k].new/\∀ j u,[Z0 C[k].name,x,y][j]?=some u->w.cell? ⟨b,o+k*3+j,none⟩=some u:=by
 obtain⟨A',c',vs,hl,e,hc,hr,hh⟩:=h
 injection e with e1 e2 e3
 subst e1;obtain⟨b,o,rfl,hb,hlt,hcell⟩:=hr.at (by rw[Z4w C vs hl];omega);have hv:vs[k]?=some vs[k]:=lG (by omega);have hT:C[k]?=some C[k]:=lG hk;have h1:=Z8r C vs hl k _ _ hT hv;exact⟨b,o,vs[k].1,vs[k].2,rfl,hb,hlt,(hh k _ _ hT hv).1,(hh k _ _ hT hv).2,fun j u hu=>by rw[lF];exact hcell _ _ (h1 j u hu)⟩
end
section
variable {w w':World} {ok:Nat->Prop} {v:Value} {C:List Chg}
theorem Yz.ltB(h:Yz w ok v C):Yz w (· < w.heap.size) v C:=h.stay (fun _ _ _=>rfl) (fun _ _ hlt=>hlt)
theorem Yz.low{B:Nat}(h:Yz w (· < B) v C)(hb:Below B w w'):Yz w' (· < B) v C:=h.stay (fun b hlt _=>hb.block b hlt) (fun _ h _=>h)
end
theorem Z12{a b c d:Value}(h1:a=c)(h2:b=d):l9 (.tuple #[a,b])=.returned (.tuple #[c,d]):=by rw[h1,h2]
theorem Za{d:Str}(h:d.length=32):(lA.info? 47).map (·.size)=some (d.map B).length:=by rw[lU,h];kernel_rfl
theorem X7:(lA.info? 192).map (·.size)=some 2:=by kernel_rfl
theorem G8:(lA.info? 107).map (·.size)=some 3:=by kernel_rfl
end
section
open Go.RowKit
theorem Z8t:∀ {l:List Str},(∀ j,j+1<l.length->Ze (l.getD j []) (l.getD (j+1) [])=true)->rises l=true
 | [],_=>rfl
 | [_],_=>rfl
 | a :: b :: r,h=>by
  have h0:=h 0 (by simp);have ih:rises (b :: r)=true:=Z8t fun j hj=>by have:=h (j+1) (by simpa using hj);simpa using this
  simp only[rises,l2];exact⟨by simpa using h0,ih⟩
theorem Z8u:∀ {l:List Str} {k:Nat},k+1<l.length->Ze (l.getD k []) (l.getD (k+1) [])=false->rises l=false
 | [],_,h,_=>by simp at h
 | [_],_,h,_=>by simp at h
 | a :: b :: r,0,_,h=>by simp only[rises,Bool.and_eq_false_iff];left;simpa using h
 | a :: b :: r,k+1,hk,h=>by
  simp only[rises,Bool.and_eq_false_iff];right;exact Z8u (l:=b :: r) (k:=k) (by simpa using hk) (by simpa using h)
theorem O8{a b:Int}(h:a=b):l9 (.int .i64 a)=.returned (.int .i64 b):=by rw[h]
theorem Z8v(l:List Str)(v:Value)(ok:Nat->Prop)(w:World)(h:Z7 w ok v l)(hf:HFit l) :
    Calls lA 225 #[v] w fun e w'=>e=.returned (.int .i64 (Ym l))/\Below w.heap.size w w':=by
  obtain⟨A,c,rfl,hc,hr⟩:=h;have hH:Z7 w ok (.slice A l.length c) l:=⟨A,c,rfl,hc,hr⟩;have hlen:l.length<=4398046511104:=hf.len;have hok:=iD hf.ok;clear hr hc hf;by_cases h8:8<l.length
  · have he:Hid (Ym l=4):=iD (by unfold Ym;rw[if_pos h8])
    go_enter func225,ntmps225;go_wp2;go_ret;exact⟨O8 he.out.symm,nA _ _⟩
  · have h8':l.length<=8:=by omega
    have he:Hid (Ym l=if rises l then 0 else 7):=iD (by unfold Ym;rw[if_neg h8]);replace hH:=iD hH;clear h8;go_enter func225,ntmps225;go_wp2;go_loopw [9] (fun i wr=>∃ k:Nat,k<=l.length/\i=.int .i64 k/\Hid (∀ j,j+1<k->Ze (l.getD j []) (l.getD (j+1) [])=true)/\Below w.heap.size w wr) (fun i _=>l.length - (intOf i).toNat)
    case atStart=>exact⟨0,lR _,rfl,iD (fun j hj=>by omega),nA _ _⟩
    case round =>
      obtain⟨k,hk,rfl,hr,hb⟩:=hrel;by_cases hlt:k<l.length
      · by_cases hk0:k=0
        · subst hk0
          have g0:decide (0<((0:Nat):Int))=false:=by simp
          go_wp2;go_quiet (fail);go_wp2;go_roundw
          case rel=>exact⟨1,by omega,by go_num,iD (fun j hj=>by omega),below_drewN hb nq⟩
          case measure=>simp[intOf];omega
        · have hk1:0<k:=by omega
          obtain⟨b,o,rfl,_,hbl,hc2⟩:=hH.out.dig hok.out k hlt;obtain⟨b',o',e',_,_,hc1⟩:=hH.out.dig hok.out (k - 1) (by omega);cases e'
          obtain⟨x,hx⟩:∃ x,x=l[k - 1]:=⟨_,rfl⟩;obtain⟨y,hy⟩:∃ y,y=l[k]:=⟨_,rfl⟩;have hxl:x.length=32:=by rw[hx];exact hok.out _ (nB _)
          have hyl:y.length=32:=by rw[hy];exact hok.out _ (nB _)
          rw[<-hx] at hc1;rw[<-hy] at hc2;have hxy:Hid (Ze (l.getD (k - 1) []) (l.getD (k - 1+1) [])=Ze x y):=iD (by
            rw[hx,hy,Nat.sub_add_cancel hk1];simp[hlt,show k - 1<l.length by omega])
          have hc1':∀ s:X1 wr,∀ j v,(x.map B)[j]?=some v->s.1.cell? ⟨b,o+(k - 1)*32+j,none⟩=some v:=fun s j v hv=>by
            rw[(hb.trans (s.2.mono hb.size)).cell (p:=⟨b,_,none⟩) hbl];exact hc1 j v hv
          have hc2':∀ s:X1 wr,∀ j v,(y.map B)[j]?=some v->s.1.cell? ⟨b,o+k*32+j,none⟩=some v:=fun s j v hv=>by
            rw[(hb.trans (s.2.mono hb.size)).cell (p:=⟨b,_,none⟩) hbl];exact hc2 j v hv
          have hcall:=iD (Z2j x y hxl hyl);have hsx:=iD (Za hxl);have hsy:=iD (Za hyl);replace hc1':=iD hc1';replace hc2':=iD hc2';clear hx hy hc1 hc2 hxl hyl;obtain⟨t,ht⟩:∃ t,t=Ze x y:=⟨_,rfl⟩;rw[<-ht] at hxy hcall;clear ht;have g0:decide (0<(k:Int))=true:=by simpa using hk1
          have e1:IntKind.i64.wrap ((k:Int) - 1)=(k:Int) - 1:=IntWalk.i64_in _ (by omega);have e2:(0:Int)<=(k:Int) - 1:=by omega
          have e3:(k:Int) - 1<(l.length:Int):=by omega
          have e4:((k:Int) - 1).toNat=k - 1:=by omega
          have i1:(0:Int)<=(k:Int):=by omega
          have i2:(k:Int)<(l.length:Int):=by omega
          haveI:=Qt wr;go_wp2;refine Kj (by kernel_rfl) (by kernel_rfl) ?_;repeat (first
            | (refine Vw 47 (.tmp 18) rfl rfl b (o+(k - 1)*32) rfl (x.map B) (fun w hw=>?_) _ underlying47 rfl hsx.out ?_
               · obtain⟨s,rfl⟩:=hw
                 exact hc1'.out s
               go_frame)
            | (refine Vw 47 (.tmp 22) rfl rfl b (o+k*32) rfl (y.map B) (fun w hw=>?_) _ underlying47 rfl hsy.out ?_
               · obtain⟨s,rfl⟩:=hw
                 exact hc2'.out s
               go_frame)
            | go_big_quiet_step ((go_at_call 136;exact Vq _ (hcall.out _))))
          refine wpQuiet_nil ?_;rintro _ ⟨s,rfl⟩;have hb2:=hb.trans (s.2.mono hb.size);obtain⟨w2,hw2⟩:=s;dsimp only at hb2 ⊢;clear this hw2 hcall hc1' hc2';cases t with
          | true =>
            go_wp2;go_roundw
            case rel =>
              refine⟨k+1,by omega,by go_num,iD (fun j hj=>?_),hb2⟩;by_cases hjk:j+1<k
              · exact hr.out j hjk
              · obtain rfl:j=k - 1:=by omega
                exact hxy.out
            case measure=>simp[intOf];omega
          | false =>
            have hf:Hid (rises l=false):=iD (Z8u (k:=k - 1) (by omega) hxy.out);go_wp2;go_ret;exact⟨O8 (by rw[he.out,hf.out];rfl),hb2⟩
      · obtain rfl:k=l.length:=by omega
        have hf:Hid (rises l=true):=iD (Z8t hr.out);go_wp2;go_ret;exact⟨O8 (by rw[he.out,hf.out];rfl),hb⟩
end
section
open Go.RowKit
end
end
section
open Go.RowKit
structure PRef where
 own:Bool
 com:Str
 n:Int
structure POp where
 kind:Int
 left:Bool
 at_:PRef
 byte:UInt8
structure PCom where
 parents:List Str
 author:Str
 note:Str
 ops:List POp
def X2:Str:=List.replicate 32 0
def PRef.root(r:PRef):Bool:=!r.own && (r.com == X2 && r.n == 0)
def Ji(r:PRef):Bool:=if r.own then r.com == X2 && decide (0<r.n) else if r.root then true else decide (0<r.n) && decide (r.n<=2000)
def O9(l:List POp)(i:Nat)(x:POp):Int:=if x.at_.own && (decide ((i:Int)<=x.at_.n) || ((l[(x.at_.n - 1).toNat]?).map POp.kind != some 1)) then 5 else 0
def Ka(x:POp):Int:=if x.kind=1 then (if x.left && x.at_.root then 1 else 0) else if x.kind=2 then (if x.left || (x.byte != 0 || x.at_.root) then 1 else 0) else 1
def Oa(l:List POp)(i:Int):Int :=
 if i<1 ∨ (l.length:Int)<i then 9 else
 match l[(i - 1).toNat]? with
 | none=>9
 | some x=>if Ji x.at_ then (if Ka x=0 then O9 l i.toNat x else Ka x) else 1
def Zp(n:Nat):Str:=if h:128<=n then lM (n % 128+128) :: Zp (n / 128) else [lM n]
termination_by n
decreasing_by omega
def Kx(s:Str):Str:=Zp s.length++s
def opN(x:POp):Nat:=(if x.kind=2 then 1 else 0)+(if x.left then 2 else 0)
def atS(x:POp):Str:=if x.at_.own then Zp (opN x+4)++Zp x.at_.n.toNat else if x.at_.root then Zp (opN x) else Zp (opN x+8)++x.at_.com++Zp x.at_.n.toNat
def opS(x:POp):Str:=atS x++(if x.kind=1 then [x.byte] else [])
def Q7(c:PCom):Str:=Zp c.parents.length++c.parents.flatten++Kx c.author++Kx c.note++Zp c.ops.length++c.ops.flatMap opS
theorem Z8w{n:Nat}(h:128<=n):Zp n=lM (n % 128+128) :: Zp (n / 128):=by
 rw[Zp,dif_pos h]
theorem Vy{n:Nat}(h:n<128):Zp n=[lM n]:=by
 rw[Zp,dif_neg (by omega)]
theorem Z01:∀ (k n:Nat),n<128 ^ k->(Zp n).length<=k+1
 | 0,n,h=>by
  rw[Vy (by simp at h;omega)];simp
 | k+1,n,h=>by
  by_cases h1:128<=n
  ·rw[Z8w h1,lH];have:=Z01 k (n / 128) (by rw[Nat.div_lt_iff_lt_mul (by omega)];rwa [Nat.pow_succ] at h);omega
  ·rw[Vy (by omega)];simp
def Z1(r:PRef):List Value:=.bool r.own :: (r.com.map B++[.int .i64 r.n])
def Z9(x:POp):List Value:=.int .i64 x.kind :: .bool x.left :: (Z1 x.at_++[B x.byte])
def X5(l:List POp):List Value:=l.flatMap Z9
structure OpFit (x:POp):Prop where
 com:x.at_.com.length=32
 n0:-9223372036854775808<=x.at_.n
 n1:x.at_.n<=9223372036854775807
 k0:-9223372036854775808<=x.kind
 k1:x.kind<=9223372036854775807
theorem Ug{x:POp}(h:OpFit x):(Z9 x).length=37:=by
 simp[Z9,Z1,h.com]
theorem Z4x:∀ {l:List POp},(∀ x ∈ l,OpFit x)->(X5 l).length=l.length*37
 | [],_=>rfl
 | x :: l,h=>by
  have e:X5 (x :: l)=Z9 x++X5 l:=rfl;rw[e,l8,Ug (h x (by simp)),Z4x (fun y hy=>h y (by simp[hy])),lH];omega
theorem Z8x:∀ {l:List POp},(∀ x ∈ l,OpFit x)->∀ (k:Nat) (hk:k<l.length) (j:Nat) v,(Z9 l[k])[j]?=some v->(X5 l)[k*37+j]?=some v
 | x :: l,h,0,hk,j,v,hv=>by
  have e:X5 (x :: l)=Z9 x++X5 l:=rfl;rw[e,lK (by have:=(lS.1 hv).1;simpa using this)];simpa using hv
 | x :: l,h,k+1,hk,j,v,hv=>by
  have e:X5 (x :: l)=Z9 x++X5 l:=rfl;have hd:=Ug (h x (by simp));rw[e,lL (by omega),hd,show (k+1)*37+j - 37=k*37+j by omega];exact Z8x (l:=l) (fun y hy=>h y (by simp[hy])) k (by simpa using hk) j v (by simpa using hv)
def Xu(w:World)(ok:Nat->Prop)(v:Value)(l:List POp):Prop:=∃ (A:Option Addr) (c:Nat),v=.slice A l.length c/\l.length<=c/\Rd w ok A (X5 l)
structure OsFit (l:List POp):Prop where
 len:l.length<=1759218604441
 ok:∀ x ∈ l,OpFit x
theorem Xu.stay{w w':World}{ok ok':Nat->Prop}{v:Value}{l:List POp}(h:Xu w ok v l)(hk:∀ b,ok b->b<w.heap.size->w'.heap[b]?=w.heap[b]?)(ho:∀ b,ok b->b<w.heap.size->ok' b):Xu w' ok' v l:=by
 obtain⟨A,c,e,hc,hr⟩:=h;exact⟨A,c,e,hc,hr.stay hk ho⟩
theorem Xu.stayB{w w':World}{ok:Nat->Prop}{v:Value}{l:List POp}(h:Xu w ok v l)(hb:Below w.heap.size w w'):Xu w' ok v l:=h.stay (fun b _ hlt=>hb.block b hlt) (fun _ h _=>h)
theorem Xu.op{w:World}{ok:Nat->Prop}{A:Option Addr}{n c:Nat}{l:List POp}(h:Xu w ok (.slice A n c) l)(ho:∀ x ∈ l,OpFit x)(k:Nat)(hk:k<l.length):∃ b o,A=some ⟨b,o,none⟩/\ok b/\b<w.heap.size/\∀ j v,(Z9 l[k])[j]?=some v->w.cell? ⟨b,o+k*37+j,none⟩=some v:=by
 obtain⟨A',c',e,hc,hr⟩:=h
 injection e with e1 e2 e3
 subst e1;obtain⟨b,o,rfl,hb,hlt,hcell⟩:=hr.at (by rw[Z4x ho];omega);exact⟨b,o,rfl,hb,hlt,fun j v hv=>by rw[lF];exact hcell _ v (Z8x ho k hk j v hv)⟩
structure ComFit (c:PCom):Prop where
 par:HFit c.parents
 author:c.author.length<=140737488355328
 note:c.note.length<=140737488355328
 ops:OsFit c.ops
def Y8(w:World)(ok:Nat->Prop)(cs:List Value)(c:PCom):Prop:=∃ p o,cs=[p,Z0 c.author,Z0 c.note,o]/\Z7 w ok p c.parents/\Xu w ok o c.ops
theorem Y8.stay{w w':World}{ok ok':Nat->Prop}{cs:List Value}{c:PCom}(h:Y8 w ok cs c)(hk:∀ b,ok b->b<w.heap.size->w'.heap[b]?=w.heap[b]?)(ho:∀ b,ok b->b<w.heap.size->ok' b):Y8 w' ok' cs c:=by
 obtain⟨p,o,e,h1,h2⟩:=h;exact⟨p,o,e,h1.stay hk ho,h2.stay hk ho⟩
theorem Y8.stayB{w w':World}{ok:Nat->Prop}{cs:List Value}{c:PCom}(h:Y8 w ok cs c)(hb:Below w.heap.size w w'):Y8 w' ok cs c:=h.stay (fun b _ hlt=>hb.block b hlt) (fun _ h _=>h)
end
section

end
section

end
section

end
end Go.Proofs.YtfdimggmljkkbaaGreatDoor
