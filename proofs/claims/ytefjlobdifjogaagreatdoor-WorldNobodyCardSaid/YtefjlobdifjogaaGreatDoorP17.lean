import Derived.Test.YtefjlobdifjogaaGreatDoorP16
import Derived.ArgAppend
import Derived.Defers
import Derived.Recover
open Go renaming wpQuiet_nil → lC, run_underlying → nC, grownCap_ge → nO
open Go.BinOp renaming and → lJ
open Go.Builtin renaming append_ → nG
open Go.Instr renaming build → nT
open Go.IntKind renaming i64 → lK
open Go.Lib renaming bytesWorld → nJ, run_convert_string_bytes → nZ
open Go.Oper renaming wp → lY
open Go.Proofs.Tryz renaming prog → lA
open Go.Region renaming wanted → lV
open Go.Result renaming andThen_ok → nB
open Go.RowKit.Below renaming refl → lF
open Go.Sem renaming run_bind → l9, run_pure → nA
open Go.Value renaming ownBlock → nE, slice → n5
open Go.World renaming alloc → lG, setCell → lH, setRow → nD, cell?_of_block → nF, cell?_setCells_out → nH, cell?_setCells_in → nI, putObj_heap_other → nQ, putObj → nR
open Iff renaming rfl → nS
open List renaming length_append → lD, drop_left' → lI, length_cons → lL, length_nil → lM, drop_drop → lN, map_cons → lO, map_nil → lP, append_assoc → lQ, mem_cons → lR, not_mem_nil → lS, length → lT, length_drop → lU, drop_zero → lW, map_append → lX, take_succ_cons → lZ, take_zero → l0, drop_succ_cons → l3, getElem?_eq_some_iff → l5, nil_append → l6, getElem?_append_right → l7, length_map → l8, map_toArray → nN, size_toArray → nP, getElem?_take_of_lt → nU, getElem?_append_left → nX, getElem?_eq_getElem → nY, cons_append → n1, set_append_right → n2, take_append_drop → n3, getElem?_map → n6
open Nat renaming le_trans → lB, le_refl → lE, zero_add → l4, lt_of_lt_of_le → nK, mul_one → nL, add_assoc → n4
open Option renaming map_some → nM
open Option.some renaming injEq → nV
open Prod.mk renaming injEq → nW
namespace Go.Proofs.YtefjlobdifjogaaGreatDoor
section
open Go.Proofs.Tryz
open Go.RowKit
def Zw(w:World)(base:Nat)(v:Value)(xs:Str):Prop :=
 (v=.slice none 0 0/\xs=[]) ∨ ∃ g cap cs fz,v=.slice (some ⟨g,0,none⟩) xs.length cap/\base<=g/\w.heap[g]?=some (.cells cs 5 fz)/\xs.length<=cap/\cap<=maxLen /\
  (∀ j u,(xs.map B)[j]?=some u->w.cell? ⟨g,j,none⟩=some u)/\(∀ j,j<cap->(w.cell? ⟨g,j,none⟩).isSome=true/\w.frozen? ⟨g,j,none⟩=false)
theorem Zw.form{w:World}{base:Nat}{v:Value}{xs:Str}(h:Zw w base v xs):∃ A c,v=.slice A xs.length c/\xs.length<=c:=by
 rcases h with ⟨rfl,rfl⟩ | ⟨g,cap,cs,fz,rfl,_,_,h,_⟩
 ·exact⟨none,0,rfl,lE _⟩
 ·exact⟨_,_,rfl,h⟩
theorem Zw.rd{w:World}{base:Nat}{A:Option Addr}{n c:Nat}{xs:Str}(h:Zw w base (.slice A n c) xs):Rd w (base<=·) A (xs.map B):=fun hp=>by
 rcases h with ⟨h,rfl⟩ | ⟨g,cap,cs,fz,h,hb,_,_,_,h1,_⟩
 ·simp at hp
 ·injection h with e1 e2 e3
  subst e1;exact⟨_,rfl,hb,fun j u hu=>by rw[Jk,l4];exact h1 j u hu⟩
theorem Zw.tag{w:World}{base g:Nat}{v:Value}{xs:Str}{t:TypeId}{cs:List Value}(h:Zw w base v xs)(hB:Blk w g t cs)(hne:t ≠ 5):some g ≠ v.ownBlock:=fun he=>by
 rcases h with ⟨rfl,_⟩ | ⟨g',cap,cs',fz,rfl,_,hg,_⟩
 ·cases he
 ·have e:g=g':=by simp[nE] at he;exact he
  subst e;have h1:=hB.symm.trans hg
  injection h1 with h1
  injection h1 with _ h2
  exact hne h2
theorem Zw.stay{w w':World}{base:Nat}{v:Value}{xs:Str}(h:Zw w base v xs)(hk:∀ b,v.ownBlock=some b->b<w.heap.size->w'.heap[b]?=w.heap[b]?):Zw w' base v xs:=by
 rcases h with ⟨rfl,rfl⟩ | ⟨g,cap,cs,fz,rfl,h1,h2,h3,h4,h5,h6⟩
 ·exact .inl ⟨rfl,rfl⟩
 ·have hb:=hk g rfl (Array.getElem?_eq_some_iff.1 h2).1;refine .inr ⟨g,cap,cs,fz,rfl,h1,hb.trans h2,h3,h4,fun j u hu=>?_,fun j hj=>?_⟩
  ·rw[nF (show w'.heap[(⟨g,j,none⟩:Addr).block]?=_ from hb)];exact h5 j u hu
  ·rw[nF (show w'.heap[(⟨g,j,none⟩:Addr).block]?=_ from hb),World.frozen?_of_block (show w'.heap[(⟨g,j,none⟩:Addr).block]?=_ from hb)];exact h6 j hj
theorem Zw.below{w w':World}{base:Nat}{v:Value}{xs:Str}(h:Zw w base v xs)(hb:Below w.heap.size w w'):Zw w' base v xs:=h.stay (fun b _ hl=>hb.block b hl)
theorem Zw.of_own{w:World}{base:Nat}{v:Value}{n:Nat}{xs:Str}(h:w.ownsRow base 5 1 v n (xs.map B)):Zw w base v xs:=by
 obtain⟨hn,⟨rfl,h0⟩ | ⟨g,cap,cur,rfl,h1,h2,h3,h4,h5,h6⟩⟩:=h
 ·refine .inl ⟨rfl,?_⟩;rw[h0] at hn;exact List.length_eq_zero_iff.1 (by simpa using hn)
 ·have hxn:xs.length=n:=by simpa using hn
  subst hxn;have hB:Blk w g 5 cur.toList:=h2;refine .inr ⟨g,cap,cur,(0,0),rfl,h1,h2,h3,h4,fun j u hu=>?_,fun j hj=>⟨?_,hB.frozen j⟩⟩
  ·have hj:j<xs.length:=by have:=(l5.1 hu).1;simpa using this
   rw[hB.cell,<-hu,<-h6,nU (by omega)]
  ·rw[hB.cell];simp only[nL] at h5;simp[h5,hj]
theorem Z57(b:Nat){e:TypeId}{fz:Nat × Nat}:∀ (vs:List Value) (o:Nat) (w:World) (cs:Array Value),w.heap[b]?=some (.cells cs e fz)->∃ cs',(w.setCells b o vs).heap[b]?=some (.cells cs' e fz)
 | [],_,_,cs,h=>⟨cs,h⟩
 | v :: vs,o,w,cs,h=>by
  have h1:(w.setCell ⟨b,o,none⟩ v).heap[b]?=some (.cells (cs.setIfInBounds o v) e fz):=by
   rw[setCell_eq_setRow w b o cs e fz v h];exact setRow_heap w b cs _ e _ h
  exact Z57 b vs (o+1) _ _ h1
theorem Z58(b:Nat):∀ (vs:List Value) (o:Nat) (w:World),Touch [b] w (w.setCells b o vs)
 | [],_,w=>Touch.refl _ w
 | v :: vs,o,w=>(Touch.setCell v (by simp)).trans (Z58 b vs (o+1) _) (fun i hi=>.inl hi)
theorem Za0{w w':World}{b:Nat}(h:Touch [b] w w'):w.grownBy w' (some b):=⟨h.os,h.tape,h.output,h.size,fun k hk hne=>h.block k hk (fun hm=>hne (by simp at hm;rw[hm]))⟩
theorem Za1(w:World)(base:Nat)(ty:TypeId)(v:Value)(xs:Str)(hv:Zw w base v xs)(ok:Nat->Prop)(A:Option Addr)(c:Nat)(ys:Str)(hr:Rd w ok A (ys.map B))(hy:0<ys.length)(hlen:xs.length+ys.length<=140737488355328)(hbase:base<=w.heap.size) :
  ∃ v' w',(nG #[57,57] ty #[v,.slice A ys.length c]).run lA w=.ok v' w'/\Zw w' base v' (xs++ys)/\w.grownBy w' v.ownBlock/\(∀ b,v'.ownBlock=some b->v.ownBlock=some b ∨ w.heap.size<=b):=by
 obtain⟨i,hi,hz,hsize,hby⟩:∃ i,lA.info? 5=some i/\i.zero=some (B 0)/\i.size=1/\i.bytes=1:=by
  have h:=Kh.info;cases hq:lA.info? 5 with
  | none=>simp[hq] at h
  | some i =>
   simp only[hq,nM,nV,nW] at h;exact⟨i,rfl,h.1,h.2.1,h.2.2⟩
 rcases hv with ⟨rfl,rfl⟩ | ⟨g,cap,cs,fz,rfl,h1,h2,h3,h4,h5,h6⟩
 ·obtain⟨v',w',hrun,ho,hg,hv'⟩:=Z5o (P:=lA) w base 57 ty 5 (B 0) 1 1 underlying57 Kh Z0 0 [] ⟨rfl,.inl ⟨rfl,rfl⟩⟩ ok A ys.length c (ys.map B) (by simp) hr (Y5 _) (by unfold maxLen;simp at hlen;omega) (by simp at hlen;omega) hbase;rw[l6] at ho;exact⟨v',w',hrun,by rw[l6];exact Zw.of_own ho,hg,fun b hb=>by
   rcases hv' with e | e
   ·rw[e] at hb;exact .inl hb
   ·rw[e] at hb;injection hb with hb;exact .inr (by omega)⟩
 ·obtain⟨b,o,rfl,_,_,hcell⟩:=hr.at (by simpa using hy);have hmx:xs.length+ys.length<=maxLen:=by unfold maxLen;omega
  by_cases hroom:xs.length+ys.length<=cap
  ·have hrun:=run_append_room_cells (P:=lA) w 57 ty 5 i underlying57 hi g 0 xs.length cap ⟨b,o,none⟩ ys.length c (ys.map B) (by rw[hsize];simp) (fun j u hu=>by rw[Jk];exact hcell j u hu) (Y5 _) hroom
    (fun j hj=>by rw[hsize];simp at hj;simpa using (h6 (xs.length+j) (by omega)).1) (fun j hj=>by rw[hsize];simp at hj;simpa using (h6 (xs.length+j) (by omega)).2)
   rw[hsize,l4,nL] at hrun;obtain⟨cs',hcs⟩:=Z57 g (ys.map B) xs.length w cs h2;refine⟨_,_,hrun,.inr ⟨g,cap,cs',fz,by rw[lD],h1,hcs,by rw[lD];exact hroom,h4,fun j u hu=>?_,fun j hj=>?_⟩,Za0 (Z58 g _ _ w),fun b hb=>.inl hb⟩
   ·by_cases hjx:j<xs.length
    ·rw[nH g _ _ w ⟨g,j,none⟩ (fun _ _=>.inl hjx)];rw[lX,nX (by simpa using hjx)] at hu;exact h5 j u hu
    ·rw[lX,l7 (by simp;omega),l8] at hu;have hjy:j - xs.length<(ys.map B).length:=(l5.1 hu).1;have hin:=nI g (ys.map B) xs.length w (fun k hk=>(h6 (xs.length+k) (by simp at hk;omega)).1) (j - xs.length) hjy;rw[show xs.length+(j - xs.length)=j by omega] at hin;rw[hin,<-hu,nY hjy]
   ·rw[World.frozen?_setCells];refine⟨?_,(h6 j hj).2⟩;by_cases hout:j<xs.length ∨ xs.length+(ys.map B).length<=j
    ·rw[nH g _ _ w ⟨g,j,none⟩ (fun _ _=>hout)];exact (h6 j hj).1
    ·have hjy:j - xs.length<(ys.map B).length:=by omega
     have hin:=nI g (ys.map B) xs.length w (fun k hk=>(h6 (xs.length+k) (by simp at hk;omega)).1) (j - xs.length) hjy;rw[show xs.length+(j - xs.length)=j by omega] at hin;rw[hin];rfl
  ·obtain⟨v',w',hrun,ho,hg⟩:=run_append_arg_grows (P:=lA) w 57 ty 5 i (B 0) 1 1 underlying57 hi hz hsize hby Kh.cells (by omega) ⟨g,0,none⟩ xs.length cap (xs.map B) (by simp) (fun j u hu=>by rw[Jk,l4];exact h5 j u hu) ⟨b,o,none⟩ ys.length c (ys.map B) (by simp) (fun j u hu=>by rw[Jk];exact hcell j u hu) (by omega) hmx (by omega);have ho':w'.ownsRow base 5 1 v' (xs.length+ys.length) ((xs++ys).map B):=by rw[lX];exact J1 hbase ho
   refine⟨v',w',hrun,Zw.of_own ho',⟨hg.os,hg.tape,hg.output,hg.size,fun k hk _=>hg.block k hk (by simp)⟩,fun b hb=>.inr (ho.lt b hb).1⟩
theorem Za2{ops:Array Oper}{rest:List Oper}{o:Oper}{a:Act}{w:World}{Q:Exit->Act->World->Prop}(hgd:o.guard=none)(s x:Operand)
  (ho:o.op=.call { callee:=.builtin .append,args:=#[s,x],argTypes:=#[57,57] }) (base:Nat) (v:Value) (xs:Str) (hs:a.eval s=v) (hv:Zw w base v xs)
  (ok:Nat->Prop) (A:Option Addr) (c:Nat) (ys:Str) (hx:a.eval x=.slice A ys.length c) (hr:Rd w ok A (ys.map B)) (hy:0<ys.length) (hlen:xs.length+ys.length<=140737488355328) (hbase:base<=w.heap.size)
  (h:∀ v' w',Zw w' base v' (xs++ys)->w.grownBy w' v.ownBlock->(∀ b,v'.ownBlock=some b->v.ownBlock=some b ∨ w.heap.size<=b)->wpList lA ops Q rest (a.put o.dst v') w'):wpList lA ops Q (o :: rest) a w:=by
 refine wpList_plain hgd fun K hK=>?_;obtain⟨v',w',hrun,h2,h3,h4⟩:=Za1 w base o.type v xs hv ok A c ys hr hy hlen hbase;unfold lY execOp;simp only[ho,resolve,invoke,builtin,l9,nA,nB,nN,lO,lP,hs,hx,hrun];exact hK _ _ (h v' w' h2 h3 h4)
theorem Za3(w:World){ops:Array Oper}{o:Oper}{a:Act}{K:Act->World->Prop}{Q:Exit->Act->World->Prop}{E:Prop}(hgd:o.guard=none)(s x:Operand)
  (ho:o.op=.call { callee:=.builtin .append,args:=#[s,x],argTypes:=#[57,57] }) (base:Nat) (v:Value) (xs:Str) (hs:a.eval s=v) (hv:Zw w base v xs)
  (ok:Nat->Prop) (A:Option Addr) (c:Nat) (ys:Str) (hx:a.eval x=.slice A ys.length c) (hr:Rd w ok A (ys.map B)) (hy:0<ys.length) (hlen:xs.length+ys.length<=140737488355328) (hbase:base<=w.heap.size)
  (h:∀ v' w',Zw w' base v' (xs++ys)->w.grownBy w' v.ownBlock->(∀ b,v'.ownBlock=some b->v.ownBlock=some b ∨ w.heap.size<=b)->K (a.put o.dst v') w'):if lV o (yielded ops a.tmps)=true then lY lA o a w K Q else E:=by
 have hw:lV o (yielded ops a.tmps)=true:=by simp[lV,hgd]
 rw[if_pos hw];obtain⟨v',w',hrun,h2,h3,h4⟩:=Za1 w base o.type v xs hv ok A c ys hr hy hlen hbase;unfold lY execOp;simp only[ho,resolve,invoke,builtin,l9,nA,nB,nN,lO,lP,hs,hx,hrun];exact h v' w' h2 h3 h4
theorem Zk6(w:World)(base:Nat)(s:Str)(hbase:base<=w.heap.size)(hs:s.length<=140737488355328):Zw (nJ w 5 ⟨s.toArray⟩) base (.slice (some ⟨w.heap.size,0,none⟩) s.length (grownCap w s.length 0 5)) s:=by
 have hat:=Lib.bytesWorld_at_new w 5 ⟨s.toArray⟩;have hl:(⟨s.toArray⟩:ByteArray).size=s.length:=Jw s;have hge:=nO w s.length 0 5;have hsz:(Lib.bytesCells w 5 ⟨s.toArray⟩).size=grownCap w s.length 0 5:=by
  simp only[Lib.bytesCells,Array.size_append,Array.size_map,Array.size_replicate,hl,nP];omega
 rw[hsz] at hat;refine .inr ⟨w.heap.size,_,_,_,rfl,hbase,hat,hge,grownCap_le_maxLen w _ _ _ (by unfold maxLen;omega),fun j u hu=>?_,fun j hj=>⟨?_,?_⟩⟩
 ·obtain⟨ad,h1,_,h3⟩:=Z56 w 5 s (by have:=(l5.1 hu).1;omega)
  injection h1 with h1
  subst h1;have:=h3 j u hu
  rwa [Jk,l4] at this
 ·simp only[World.cell?,hat];simp[hsz,hj]
 ·simp[World.frozen?,hat];omega
theorem Z59{ops:Array Oper}{rest:List Oper}{o:Oper}{a:Act}{w:World}{Q:Exit->Act->World->Prop}(hgd:o.guard=none)(x:Operand)(ho:o.op=.convert 9 57 x)(s:Str)(hx:a.eval x=.string ⟨s.toArray⟩)(base:Nat)(hbase:base<=w.heap.size)(hs:s.length<=140737488355328)
  (h:∀ w' c,Below w.heap.size w w'->Zw w' base (.slice (some ⟨w.heap.size,0,none⟩) s.length c) s->wpList lA ops Q rest (a.put o.dst (.slice (some ⟨w.heap.size,0,none⟩) s.length c)) w'):wpList lA ops Q (o :: rest) a w:=by
 refine J5 hgd _ ?_ (h (nJ w 5 ⟨s.toArray⟩) (grownCap w s.length 0 5) (Z55 _ _ _) (Zk6 w base s hbase hs));have hl:(⟨s.toArray⟩:ByteArray).size=s.length:=Jw s;have:=nZ (P:=lA) w 9 57 5 ⟨s.toArray⟩ underlying9 underlying57 underlying5;rw[hl] at this;simp only[execOp,ho,hx,l9,this,nB,nA]
theorem Zk7(w:World)(base:Nat)(ty:TypeId)(v:Value)(xs:Str)(hv:Zw w base v xs)(ys:Str)(hlen:xs.length+ys.length<=140737488355328)(hbase:base<=w.heap.size) :
  ∃ v' w',(nG #[57,9] ty #[v,.string ⟨ys.toArray⟩]).run lA w=.ok v' w'/\Zw w' base v' (xs++ys)/\w.grownBy w' v.ownBlock/\(∀ b,v'.ownBlock=some b->v.ownBlock=some b ∨ w.heap.size<=b):=by
 obtain⟨i,hi,hz,hsize,hby⟩:∃ i,lA.info? 5=some i/\i.zero=some (B 0)/\i.size=1/\i.bytes=1:=by
  have h:=Kh.info;cases hq:lA.info? 5 with
  | none=>simp[hq] at h
  | some i =>
   simp only[hq,nM,nV,nW] at h;exact⟨i,rfl,h.1,h.2.1,h.2.2⟩
 have hl:(⟨ys.toArray⟩:ByteArray).size=ys.length:=Jw ys;rcases hv with ⟨rfl,rfl⟩ | ⟨g,cap,cs,fz,rfl,h1,h2,h3,h4,h5,h6⟩
 ·obtain⟨v',w',hrun,ho,hg,_⟩:=Lib.run_append_own_string (P:=lA) w w.heap.size 57 9 ty 5 i underlying57 underlying9 hi hz hsize hby Z0 0 [] ⟨rfl,.inl ⟨rfl,rfl⟩⟩ ⟨ys.toArray⟩ (by unfold maxLen;rw[hl];simp at hlen;omega) (by rw[hl];simp at hlen;omega) (lE _);rw[l6,Z1s] at ho;exact⟨v',w',hrun,by rw[l6];exact Zw.of_own (J1 hbase ho),hg,fun b hb=>.inr (ho.lt b hb).1⟩
 ·have hmx:xs.length+ys.length<=maxLen:=by unfold maxLen;omega
  by_cases hroom:xs.length+ys.length<=cap
  ·have hf:=Lib.run_firstCells_string (P:=lA) w 1 ⟨ys.toArray⟩;rw[hl] at hf;have hst:=run_storeCells_cells (P:=lA) g xs.length (ys.map B) 0 w (fun j hj=>by simp at hj;simpa using (h6 (xs.length+j) (by omega)).1) (fun j hj=>by simp at hj;simpa using (h6 (xs.length+j) (by omega)).2) (Y5 _);simp only[Nat.add_zero] at hst;rw[Z1s] at hf;have hrun:(nG #[57,9] ty #[.slice (some ⟨g,0,none⟩) xs.length cap,.string ⟨ys.toArray⟩]).run lA w=.ok (.slice (some ⟨g,0,none⟩) (xs.length+ys.length) cap) (w.setCells g xs.length (ys.map B)):=by
    simp[nG,nC underlying57,nC underlying9,sizeOf,typeInfo,hi,hsize,Builtin.lenOf,hl,hroom,hf,Addr.add_lit,hst]
   obtain⟨cs',hcs⟩:=Z57 g (ys.map B) xs.length w cs h2;refine⟨_,_,hrun,.inr ⟨g,cap,cs',fz,by rw[lD],h1,hcs,by rw[lD];exact hroom,h4,fun j u hu=>?_,fun j hj=>?_⟩,Za0 (Z58 g _ _ w),fun b hb=>.inl hb⟩
   ·by_cases hjx:j<xs.length
    ·rw[nH g _ _ w ⟨g,j,none⟩ (fun _ _=>.inl hjx)];rw[lX,nX (by simpa using hjx)] at hu;exact h5 j u hu
    ·rw[lX,l7 (by simp;omega),l8] at hu;have hjy:j - xs.length<(ys.map B).length:=(l5.1 hu).1;have hin:=nI g (ys.map B) xs.length w (fun k hk=>(h6 (xs.length+k) (by simp at hk;omega)).1) (j - xs.length) hjy;rw[show xs.length+(j - xs.length)=j by omega] at hin;rw[hin,<-hu,nY hjy]
   ·rw[World.frozen?_setCells];refine⟨?_,(h6 j hj).2⟩;by_cases hout:j<xs.length ∨ xs.length+(ys.map B).length<=j
    ·rw[nH g _ _ w ⟨g,j,none⟩ (fun _ _=>hout)];exact (h6 j hj).1
    ·have hjy:j - xs.length<(ys.map B).length:=by omega
     have hin:=nI g (ys.map B) xs.length w (fun k hk=>(h6 (xs.length+k) (by simp at hk;omega)).1) (j - xs.length) hjy;rw[show xs.length+(j - xs.length)=j by omega] at hin;rw[hin];rfl
  ·have hr:=Lib.run_append_grow_string (P:=lA) w 57 9 ty 5 i (B 0) underlying57 underlying9 hi hz ⟨g,0,none⟩ xs.length cap (xs.map B) (by rw[hsize];simp) (fun j u hu=>by rw[Jk,l4];exact h5 j u hu) ⟨ys.toArray⟩ (by rw[hl];omega) (by rw[hl];omega) (by rw[hby,hl];exact growslice_fits (by omega) (by omega));rw[hl,Z1s] at hr;have hge:=nO w (xs.length+ys.length) cap 5;have hcm:=grownCap_le_maxLen w (xs.length+ys.length) cap 5 hmx;refine⟨_,_,hr,Zw.of_own (n:=xs.length+ys.length) ⟨by simp,.inr ⟨w.heap.size,_,_,rfl,hbase,World.alloc_heap_new w.drew _,hge,hcm,?_,?_⟩⟩,⟨rfl,rfl,rfl,by simp,fun k hk _=>Below.heap_alloc w.drew _ k hk⟩,fun b hb=>.inr (by simp[nE] at hb;omega)⟩
   ·have hz1:(B 0:Value).cells.size=1:=rfl;simp only[Array.size_append,nP,size_zeroCells,hz1,l8];omega
   ·have e:((xs++ys).map B).length=(xs.length+ys.length)*1:=by simp
    simp only[Array.toList_append,lQ];rw[<-lQ,<-lX,<-e];exact List.take_left
end
section
set_option maxRecDepth 100000
set_option maxHeartbeats 16000000
open Go.Lib renaming hid → iD
open Go.Proofs.Tryz
open Go.RowKit Go.Shelf
attribute [local go_sem] Oper.semAt_some
def Up:Str:=[82,80,49]++Z3 1
def Xu(xs:Str):Str:=Up++Y6 xs++Z3 0++Zr xs
def Xb(xs:Str):Str:=Xu xs++Y6 (Xu xs)
theorem Blk.put{w:World}{g l:Nat}{t:TypeId}{cs:List Value}{o:Obj}(h:Blk w g t cs)(hl:w.heap[l]?=some o)(hm:J6 o=true)(o':Obj):Blk (w.putObj l o') g t cs :=
 (nQ (fun e=>Kk (k:=l) hl hm (e ▸ h))).trans h
theorem Zw.put{w:World}{base l:Nat}{v:Value}{xs:Str}{o:Obj}(h:Zw w base v xs)(hl:w.heap[l]?=some o)(hm:J6 o=true)(o':Obj):Zw (w.putObj l o') base v xs :=
 h.stay (fun b hb _=>nQ (fun e=>by
  subst e;rcases h with ⟨rfl,_⟩ | ⟨g,cap,cs,fz,rfl,_,h2,_⟩
  ·cases hb
  ·have e2:g=b:=by simpa[nE] using hb
   subst e2;rw[h2] at hl
   injection hl with hl
   subst hl;cases hm))
structure PkI (w:World) (top ob db fb ab:Nat) (ph body:Str) (pre:List Unit) (W:World):Prop where
 bel:Below w.heap.size w W
 res:Blk W w.heap.size 9 [.string ⟨#[]⟩]
 err:Blk W (w.heap.size+1) 23 [.int .i64 0]
 out:∃ V,Blk W ob 57 [V]/\Zw W w.heap.size V (if pre=[] then ph else body)/\(pre=[]->∀ b,V.ownBlock=some b->b<top)
 dep:Blk W db 3 [.int .i64 0]
 fst:Blk W fb 4 [.bool (decide (pre=[]))]
 ahd:∃ v,Blk W ab 57 [v]/\(pre=[]->v=.slice none 0 0)
theorem PkI.below{w:World}{top ob db fb ab:Nat}{ph body:Str}{pre:List Unit}{A W:World}(h:PkI w top ob db fb ab ph body pre A)(hw:w.heap.size<=A.heap.size)(hb:Below A.heap.size A W):PkI w top ob db fb ab ph body pre W:=by
 obtain⟨V,h1,h2,h5⟩:=h.out;obtain⟨v,h3,h4⟩:=h.ahd;exact⟨h.bel.trans (hb.mono hw),h.res.below hb h.res.lt,h.err.below hb h.err.lt,⟨V,h1.below hb h1.lt,h2.below hb,h5⟩,h.dep.below hb h.dep.lt,h.fst.below hb h.fst.lt,⟨v,h3.below hb h3.lt,h4⟩⟩
theorem PkI.put{w:World}{top ob db fb ab l:Nat}{ph body:Str}{pre:List Unit}{A:World}{o:Obj}(h:PkI w top ob db fb ab ph body pre A)(hw:w.heap.size<=l)(hl:A.heap[l]?=some o)(hm:J6 o=true)(o':Obj):PkI w top ob db fb ab ph body pre (A.putObj l o'):=by
 obtain⟨V,h1,h2,h5⟩:=h.out;obtain⟨v,h3,h4⟩:=h.ahd;exact⟨h.bel.trans ⟨rfl,rfl,rfl,by simp[nR],fun k hk=>nQ (by omega)⟩,h.res.put hl hm o',h.err.put hl hm o',⟨V,h1.put hl hm o',h2.put hl hm o',h5⟩,h.dep.put hl hm o',h.fst.put hl hm o',⟨v,h3.put hl hm o',h4⟩⟩
theorem Zw.cells{w:World}{base b:Nat}{v:Value}{xs:Str}(h:Zw w base v xs)(hb:v.ownBlock=some b):base<=b/\∃ cs fz,w.heap[b]?=some (.cells cs 5 fz):=by
 rcases h with ⟨rfl,_⟩ | ⟨g,cap,cs,fz,rfl,h1,h2,_⟩
 ·cases hb
 ·obtain rfl:g=b:=by simpa[nE] using hb
  exact⟨h1,cs,fz,h2⟩
structure BI (W2:World) (base lo:Nat) (VB:Option Addr) (xs:Str) (y:World) (V:Value) (zs:Str):Prop where
 keep:Xl W2 y
 mks:KeepM W2 y
 rd:Rd y (fun b=>lo<=b/\b<W2.heap.size) VB (xs.map B)
 buf:Zw y base V zs
 sep:∀ b,V.ownBlock=some b->b<lo ∨ W2.heap.size<=b
 bel:Below base W2 y
 le:W2.heap.size<=y.heap.size
theorem BI.grow{W2 y y':World}{base lo:Nat}{VB:Option Addr}{xs zs zs':Str}{V V':Value}(h:BI W2 base lo VB xs y V zs)(hW:base<=W2.heap.size)(hb:Zw y' base V' zs')(hg:y.grownBy y' V.ownBlock)(hn:∀ b,V'.ownBlock=some b->V.ownBlock=some b ∨ y.heap.size<=b):BI W2 base lo VB xs y' V' zs' where
 keep:=h.keep.trans (fun g t cs hB hne=>hB.grown hg (h.buf.tag hB hne))
 mks:=h.mks.trans ⟨fun k o ho hm=>(hg.block k (Qc ho) (fun e=>by
  obtain⟨_,cs,fz,hc⟩:=h.buf.cells e.symm;rw[hc] at ho
  injection ho with ho
  subst ho;cases hm)).trans ho⟩
 rd:=h.rd.stay (fun b hb hlt=>hg.block b hlt (fun e=>by
  rcases h.sep b e.symm with h1 | h1
  ·omega
  ·omega)) (fun b hb _=>hb)
 buf:=hb
 sep:=fun b hb=>by
  rcases hn b hb with e | e
  ·exact h.sep b e
  ·exact .inr (lB h.le e)
 bel:=h.bel.trans ((lF _ _).grown hg (lB hW h.le) (fun k hk=>(h.buf.cells hk).1))
 le:=lB h.le hg.size
theorem BI.call{W2 y y':World}{base lo:Nat}{VB:Option Addr}{xs zs:Str}{V:Value}(h:BI W2 base lo VB xs y V zs)(hW:base<=W2.heap.size)(hb:Below y.heap.size y y'):BI W2 base lo VB xs y' V zs where
 keep:=h.keep.trans (Xl.below hb)
 mks:=h.mks.trans (KeepM.below hb)
 rd:=h.rd.stay (fun b _ hlt=>hb.block b hlt) (fun _ h _=>h)
 buf:=h.buf.below hb
 sep:=h.sep
 bel:=h.bel.trans (hb.mono (lB hW h.le))
 le:=lB h.le hb.size
theorem Zk8(w:World){ops:Array Oper}{o:Oper}{a:Act}{K:Act->World->Prop}{Q:Exit->Act->World->Prop}{E:Prop}(hgd:o.guard=none)(s x:Operand)
  (ho:o.op=.call { callee:=.builtin .append,args:=#[s,x],argTypes:=#[57,9] }) (base:Nat) (v:Value) (xs:Str) (hs:a.eval s=v) (hv:Zw w base v xs)
  (ys:Str) (hx:a.eval x=.string ⟨ys.toArray⟩) (hlen:xs.length+ys.length<=140737488355328) (hbase:base<=w.heap.size)
  (h:∀ v' w',Zw w' base v' (xs++ys)->w.grownBy w' v.ownBlock->(∀ b,v'.ownBlock=some b->v.ownBlock=some b ∨ w.heap.size<=b)->K (a.put o.dst v') w'):if lV o (yielded ops a.tmps)=true then lY lA o a w K Q else E:=by
 have hw:lV o (yielded ops a.tmps)=true:=by simp[lV,hgd]
 rw[if_pos hw];obtain⟨v',w',hrun,h2,h3,h4⟩:=Zk7 w base o.type v xs hv ys hlen hbase;unfold lY execOp;simp only[ho,resolve,invoke,builtin,l9,nA,nB,nN,lO,lP,hs,hx,hrun];exact h v' w' h2 h3 h4
theorem Zk9{fn:Func}{p q:Tmp}{ty ty2:TypeId}(h:fn.results=#[.cell p ty,.cell q ty2])(tmps:Array Value)(P:Program)(w:World)(g1 g2:Nat)(t1 t2:TypeId)(v1 v2:Value)(q2:IntKind)
  (hp:tmps.getD p undef=.pointer (some ⟨g1,0,none⟩)) (hq:tmps.getD q undef=.pointer (some ⟨g2,0,none⟩)) (h1:Blk w g1 t1 [v1]) (h2:Blk w g2 t2 [v2]) (hu1:P.underlying ty=some .string) (hu2:P.underlying ty2=some (.int q2)) :
  (results fn tmps).run P w=.ok (.tuple #[v1,v2]) w:=by
 have e1:(asAddr (.pointer (some ⟨g1,0,none⟩))).run P w=.ok (⟨g1,0,none⟩:Addr) w:=by simp[asAddr]
 have e2:(asAddr (.pointer (some ⟨g2,0,none⟩))).run P w=.ok (⟨g2,0,none⟩:Addr) w:=by simp[asAddr]
 have c1:w.cell? ⟨g1,0,none⟩=some v1:=h1.cell 0;have c2:w.cell? ⟨g2,0,none⟩=some v2:=h2.cell 0;have l1:(loadVar ty ⟨g1,0,none⟩).run P w=.ok v1 w:=by
  simp[loadVar,isAgg,nC hu1,go_sem,c1]
 have l2:(loadVar ty2 ⟨g2,0,none⟩).run P w=.ok v2 w:=by
  simp[loadVar,isAgg,nC hu2,go_sem,c2]
 have hp':tmps[p]?.getD undef=.pointer (some ⟨g1,0,none⟩):=by simpa using hp
 have hq':tmps[q]?.getD undef=.pointer (some ⟨g2,0,none⟩):=by simpa using hq
 simp[results,h,hp',hq',e1,e2,l1,l2]
theorem Zka(xs:Str)(hx:xs.length<=131072)(A:Option Addr)(c:Nat)(w:World)(hR:Rd w (· < w.heap.size) A [.string ⟨xs.toArray⟩])(hK:Zm w) :
  Calls lA 106 #[.slice A 1 c] w fun e w'=>e=.returned (.tuple #[.string ⟨(Xb xs).toArray⟩,.int .i64 0])/\Below w.heap.size w w':=by
 have htk:=iD (fun W (hb:Below w.heap.size w W) hK=>Zk5 xs hx A c W ((hR.stayB hb).weak (fun b hlt _=>hlt)) hK);have hKb:=iD (fun W (hb:Below w.heap.size w W)=>keys_below hK hb);clear hR hK;refine Z24 func106 rfl ?_;simp only[ntmps106,nP,lL,lM,Nat.reduceAdd,Nat.reduceSub,Array.replicate_succ,Array.replicate_zero,List.push_toArray,List.append_toArray,l6,n1];go_wp2_with fail;generalize hW1:lG (lG w _) _=w1;have hS1:Blk w1 w.heap.size 9 [.string ⟨#[]⟩]:=by rw[<-hW1];exact (Blk.new_at (cs:=[.string ⟨#[]⟩]) rfl).alloc _
 have hE1:Blk w1 (w.heap.size+1) 23 [.int .i64 0]:=by rw[<-hW1];exact Blk.new_at (cs:=[.int .i64 0]) (by simp)
 have hb1:Below w.heap.size w w1:=by rw[<-hW1];exact bL.alloc (by simp) _
 clear hW1;refine (htk.out w1 hb1 (hKb.out w1 hb1)).mono ?_;rintro e w2 ⟨sb,mb,V,rfl,hT2,hM2,hrow2,hb2⟩;obtain⟨VA,vc,rfl,hvc,_⟩:=Za hrow2;have hS2:=hS1.below hb2 hS1.lt;have hE2:=hE1.below hb2 hE1.lt;have hb12:=hb1.trans (hb2.mono hb1.size);have hle2:=hb1.size;have hrd2:Rd w2 (· < w2.heap.size) VA (xs.map B):=(K1 hrow2).weak (fun b hb _=>hb);have hlen:=Zjr sb mb xs.length _ w2 hT2 hM2.v;have hnum:=iD (fun W=>Z9z 1 (by omega) W);clear htk hS1 hE1 hb1 hb2 hrow2;replace hS2:=iD hS2;replace hE2:=iD hE2;replace hb12:=iD hb12;replace hrd2:=iD hrd2;replace hT2:=iD hT2;replace hM2:=iD hM2;replace hlen:=iD hlen;go_wp2_with fail;refine hlen.out.mono ?_;rintro e w3 ⟨rfl,rfl⟩;go_wp2_with fail;refine (hnum.out w3).mono ?_;rintro e w4 ⟨rfl,hb4⟩;have hS4:=hS2.out.below hb4 hS2.out.lt;have hE4:=hE2.out.below hb4 hE2.out.lt;have hT4:=hT2.out.below hb4 hT2.out.lt;have hM4:=hM2.out.below hb4 hM2.out.lt;have hrd4:=hrd2.out.stayB hb4;have hb14:=hb12.out.trans (hb4.mono hb12.out.size);have hle4:w.heap.size<=w4.heap.size:=hb14.size;clear hS2 hE2 hT2 hM2 hrd2 hb12 hb4 hlen hnum;replace hS4:=iD hS4;replace hE4:=iD hE4;replace hT4:=iD hT4;replace hM4:=iD hM4;replace hrd4:=iD hrd4;replace hb14:=iD hb14;obtain⟨pn,hpn⟩:∃ pn,pn=Z3 1:=⟨_,rfl⟩;have hpl:pn.length=1:=by rw[hpn,Xq (by decide)];rfl
 have hz1:(⟨pn.toArray⟩:ByteArray).size=1:=(Jw pn).trans hpl;have hcat:((⟨#[82,80,49]⟩:ByteArray)++⟨pn.toArray⟩)=⟨(Up).toArray⟩:=by
  apply ByteArray.ext;rw[hpn];simp[Up]
 rw[<-hpn];obtain⟨ph,hph⟩:∃ ph,ph=Up:=⟨_,rfl⟩;have hphl:ph.length=4:=by rw[hph,Up,<-hpn,lD,hpl];rfl
 rw[<-hph] at hcat;replace hpn:=iD hpn;replace hph:=iD hph;go_upto_region 5 with (first
  | (refine Z59 rfl (.tmp 26) rfl ph rfl w.heap.size hle4 (by omega) ?_;intro w5 c5 hb5 hbuf5;replace hb5:=iD hb5;replace hbuf5:=iD hbuf5;go_frame)
  | fail)
 have hle5:w.heap.size<=w5.heap.size:=lB hle4 hb5.out.size;rw[<-hphl];obtain⟨BA,hBA⟩:∃ BA,BA=(some ⟨w4.heap.size,0,none⟩:Option Addr):=⟨_,rfl⟩;rw[<-hBA] at hbuf5 ⊢;replace hBA:=iD hBA;go_upto_region 7 with fail;generalize hW6:lG (lG (lG (lG w5 _) _) _) _=w6;have hO6:Blk w6 w5.heap.size 57 [.slice BA ph.length c5]:=by rw[<-hW6,hphl];exact (((Blk.new_at (cs:=[.slice BA 4 c5]) rfl).alloc _).alloc _).alloc _
 have hD6:Blk w6 (w5.heap.size+1) 3 [.int .i64 0]:=by rw[<-hW6];exact ((Blk.new_at (cs:=[.int .i64 0]) (by simp)).alloc _).alloc _
 have hF6:Blk w6 (w5.heap.size+1+1) 4 [.bool true]:=by rw[<-hW6];exact (Blk.new_at (cs:=[.bool true]) (by simp)).alloc _
 have hA6:Blk w6 (w5.heap.size+1+1+1) 57 [.slice none 0 0]:=by rw[<-hW6];exact Blk.new_at (cs:=[.slice none 0 0]) (by simp)
 have hb6:Below w5.heap.size w5 w6:=by rw[<-hW6];go_grown
 clear hW6;have hal:=iD (Zk3 sb w6);go_wp2_with fail;refine hal.out.mono ?_;rintro e w7 ⟨rfl,hX7,hb7⟩;go_wp2_with fail;have hb47:Below w4.heap.size w4 w7:=hb5.out.trans ((hb6.mono hb5.out.size).trans (hb7.mono (lB hb5.out.size hb6.size)));have hb17:Below w.heap.size w w7:=hb14.out.trans (hb47.mono hle4);have hT7:=hT4.out.below hb47 hT4.out.lt;have hM7:=hM4.out.below hb47 hM4.out.lt;have hrd7:=hrd4.out.stayB hb47;have hle7:w4.heap.size<=w7.heap.size:=hb47.size;have hI7:PkI w w7.heap.size w5.heap.size (w5.heap.size+1) (w5.heap.size+1+1) (w5.heap.size+1+1+1) ph (Xu xs) [] w7 :=
  ⟨hb17,hS4.out.below hb47 hS4.out.lt,hE4.out.below hb47 hE4.out.lt,⟨_,hO6.below hb7 hO6.lt,(hbuf5.out.below hb6).below hb7,fun _ b hb=>by
   obtain⟨_,_,_,hc⟩:=hbuf5.out.cells hb;exact nK (Qc hc) (lB hb6.size hb7.size)⟩,hD6.below hb7 hD6.lt,hF6.below hb7 hF6.lt,⟨_,hA6.below hb7 hA6.lt,fun _=>rfl⟩⟩
 have hY:=Zk2 (Y6 xs) xs (J2 xs) hx w6.heap.size sb mb xs.length VA vc w7 hX7 hT7 hM7 (hrd7.weak (fun b hlt _=>hlt)) hvc;have hle17:=hb17.size;have hKr:=hKb;clear hO6 hD6 hF6 hA6 hX7 hT7 hM7 hrd7 hb6 hb7 hb47 hb17 hS4 hE4 hT4 hM4 hrd4 hb14 hb5 hbuf5 hal;replace hI7:=iD hI7;replace hY:=iD hY;obtain⟨dc,hdc⟩:∃ dc,dc=(Y6 xs).map B:=⟨_,rfl⟩;have hdcl:dc.length=32:=by rw[hdc,l8,J2]
 have hdz:(lA.info? 59).map (·.size)=some dc.length:=by rw[hdc];exact Zg (J2 xs)
 have hdo:∀ v ∈ dc,v.oneCell'=true:=by rw[hdc];exact Y5 _
 replace hdc:=iD hdc;replace hdz:=iD hdz;replace hdo:=iD hdo;obtain⟨act,hact⟩:∃ act:Nat->Value->Act,act=fun tb V=>{ tmps:=#[.slice A 1 c,undef,.pointer (some ⟨w.heap.size,0,none⟩),.pointer (some ⟨w.heap.size+1,0,none⟩),.pointer (some ⟨sb,0,none⟩),.int .i64 0,.pointer (some ⟨w5.heap.size,0,none⟩),.pointer (some ⟨w5.heap.size+1,0,none⟩),.pointer (some ⟨w5.heap.size+1+1,0,none⟩),.pointer (some ⟨w5.heap.size+1+1+1,0,none⟩),.pointer (some ⟨tb,0,none⟩),V,undef,undef,undef,.tuple #[.pointer (some ⟨sb,0,none⟩),.int .i64 0],.slice A 1 c,.tuple #[.pointer (some ⟨sb,0,none⟩),.int .i64 0],.pointer (some ⟨sb,0,none⟩),.int .i64 0,.int .i64 0,.bool false,undef,.pointer (some ⟨sb,0,none⟩),.int .i64 1,.string ⟨pn.toArray⟩,.string ⟨ph.toArray⟩,.slice BA 4 c5,.pointer (some ⟨sb,0,none⟩),.func (.func 252) #[] #[.pointer (some ⟨w6.heap.size,0,none⟩)],.agg dc.toArray,V,undef,undef,undef,undef,undef,undef,undef,undef,undef,undef,undef,undef,undef,undef,undef,undef,undef,undef,undef,undef,undef,undef,undef,undef,undef,undef,undef,undef,undef,undef,undef,undef],defers:=[] }:=⟨_,rfl⟩;replace hact:=iD hact;refine Z53 252 #[.pointer (some ⟨w6.heap.size,0,none⟩)] (Z9y w7.heap.size (Y6 xs) xs) [()] (fun A B=>Below A.heap.size A B) (fun _ _=>True) rfl (fun _ _=>by simp[go_sem]) (by rintro _ vs W ⟨V,rfl,_⟩;rfl) hY.out (fun _ _ h=>KeepM.below h) (fun _ _ _ _ _=>trivial) (fun _ _ _ _ _ _ _=>trivial)
  (fun pre W=>w7.heap.size<=W.heap.size/\PkI w w7.heap.size w5.heap.size (w5.heap.size+1) (w5.heap.size+1+1) (w5.heap.size+1+1+1) ph (Xu xs) pre W) ?iq ?im ?ia
  (fun pre _ a' W=>(w7.heap.size<=W.heap.size/\PkI w w7.heap.size w5.heap.size (w5.heap.size+1) (w5.heap.size+1+1) (w5.heap.size+1+1+1) ph (Xu xs) pre W)/\∃ tb VB vb,a'=act tb (.slice VB xs.length vb)/\Blk W tb 59 dc/\Zw W w7.heap.size (.slice VB xs.length vb) xs) ?iam ?assign ?body ?done
 case iq=>exact fun pre A B ⟨h1,h2⟩ hb=>⟨lB h1 hb.size,h2.below (lB hle17 h1) hb⟩
 case im=>exact fun pre A l o o' ⟨h1,h2⟩ hl ho hm=>⟨by simpa[nR] using h1,h2.put (lB hle17 hl) ho hm o'⟩
 case ia=>exact fun o1 o2 _ _=>⟨by simp;omega,(hI7.out.below hle17 ((lF _ _).alloc (lE _) o1)).below (by simp;omega) ((lF _ _).alloc (lE _) o2)⟩
 case iam=>exact fun pre x a' A l o o' ⟨⟨h1,h2⟩,tb,VB,vb,h3,h4,h5⟩ hl ho hm=>⟨⟨by simpa[nR] using h1,h2.put (lB hle17 hl) ho hm o'⟩,tb,VB,vb,h3,h4.put ho hm o',h5.put ho hm o'⟩
 case assign =>
  rintro l pre x r vs W K ⟨hW,hI⟩ hpr ⟨V,rfl,hrow⟩ hK;obtain⟨VB,vb,rfl,_,_⟩:=Za hrow;rw[<-hdc.out];replace hI:=iD hI;replace hrow:=iD hrow;replace hK:=iD hK
  gi_wp2_with (first
   | (refine Zfj (by rfl) ?_;refine Zd rfl 59 (.tmp 10) (.tmp 30) rfl W.heap.size dc rfl rfl 59 Z2 (Blk.new_at rfl) (by rw[hdcl];rfl) hdz.out hdo.out ?_;go_frame)
   | fail)
  refine wpList_nil ?_;generalize hW1:nD _ W.heap.size dc.toArray=W1;have hD1:Blk W1 W.heap.size 59 dc:=by rw[<-hW1];exact (Blk.new_at (cs:=Z2) rfl).setRow_same dc
  have hb1:Below W.heap.size W W1:=by rw[<-hW1];exact below_setRow ((lF _ _).alloc (lE _) (.cells Z2.toArray 59)) (lE _) dc.toArray
  have hfin:Hid (K (act W.heap.size (.slice VB xs.length vb)) W1):=iD (hK.out _ _ (KeepM.below hb1) trivial ⟨⟨lB hW hb1.size,hI.out.below (lB hle17 hW) hb1⟩,_,_,_,rfl,hD1,(Zw.of_own hrow.out).below hb1⟩);rw[hact.out] at hfin;clear hW1 hD1 hb1 hK hI hrow;unfold Z0a
  gi_wp2
  exact hfin.out
 case body =>
  rintro l pre x r a' W ⟨⟨hW,hI⟩,tb,VB,vb,rfl,hD,hB⟩ hpr;obtain⟨rfl,rfl⟩:pre=[]/\r=[]:=by
   cases pre with
   | nil=>injection hpr with h1 h2;exact⟨rfl,h2.symm⟩
   | cons q pre=>exfalso;injection hpr with h1 h2;cases pre <;> simp at h2
  obtain⟨V0,hO0,hbuf,htop⟩:=hI.out;have htop':=htop rfl;clear htop;obtain⟨v0,hA0,hv0⟩:=hI.ahd;obtain rfl:=hv0 rfl;rw[if_pos rfl] at hbuf;have c9:W.cell? ⟨w5.heap.size+1+1+1,0,none⟩=some (.slice none 0 0):=hA0.cell 0;have c8:W.cell? ⟨w5.heap.size+1+1,0,none⟩=some (.bool true):=hI.fst.cell 0;have c7:W.cell? ⟨w5.heap.size+1,0,none⟩=some (.int .i64 0):=hI.dep.cell 0;have htold:=iD (Zk4 (.slice VB xs.length vb) 0 W);rw[hact.out];replace hI:=iD hI;replace hO0:=iD hO0;replace hbuf:=iD hbuf;replace hA0:=iD hA0;replace hD:=iD hD;replace hB:=iD hB
  gi_wp2
  refine⟨trivial,rfl,(callsIn_wide.2 htold.out).mono ?_⟩;rintro e W2 ⟨rfl,rfl⟩
  gi_wp2
  have hlW:w.heap.size<=W2.heap.size:=lB hle17 hW;have hbd:Below W2.heap.size W2 W2.drew:=(lF _ _).drew;have hrdB:Rd W2 (fun b=>w7.heap.size<=b/\b<W2.heap.size) VB (xs.map B):=hB.out.rd.stay (fun _ _ _=>rfl) (fun b hb hlt=>⟨hb,hlt⟩);have hbi0:BI W2 w.heap.size w7.heap.size VB xs W2.drew V0 ph:=⟨Xl.below hbd,KeepM.below hbd,hrdB.drewN 1,hbuf.out.below hbd,fun b hb=>.inl (htop' b hb),hbd.mono hlW,hbd.size⟩;obtain⟨ds,hds⟩:∃ ds,ds=Y6 xs:=⟨_,rfl⟩;have hdl:ds.length=32:=by rw[hds];exact J2 xs
  have hD':Blk W2 tb 59 (ds.map B):=by rw[hds,<-hdc.out];exact hD.out
  obtain⟨p0,hp0⟩:∃ p0,p0=Z3 0:=⟨_,rfl⟩;have hp0l:p0.length=1:=by rw[hp0,Xq (by decide)];rfl
  have hn0:=iD (fun W=>Z9z 0 (by omega) W);rw[<-hp0] at hn0;obtain⟨tx,htx⟩:∃ tx,tx=Zr xs:=⟨_,rfl⟩;have htxl:tx.length<=131082/\0<tx.length:=by
   have h1:=Jr (n:=xs.length) (by (have : (128:Nat) ^ 9=9223372036854775808:=by decide);omega);have h2:0<(Z3 xs.length).length:=by
    by_cases h:xs.length<128
    ·rw[Xq h];simp
    ·rw[Ot (by omega)];simp
   rw[htx];unfold Zr;rw[lD];omega
  have htx_:=iD (fun W=>Z1t xs W (by omega));rw[<-htx] at htx_;unfold Z1 at htx_;have hfinS:Xu xs=((ph++ds)++p0)++tx:=by rw[hph.out,hds,hp0,htx];rfl
  obtain⟨PS,hPS⟩:∃ PS:World->Prop,∀ y,PS y ↔ (Xl W2 y/\Rd y (fun b=>w7.heap.size<=b/\b<W2.heap.size) VB (xs.map B)):=⟨_,fun _=>nS⟩;have s0:∀ y:Cls PS,y.1.cell? ⟨w5.heap.size,0,none⟩=some V0:=fun y=>(((hPS _).1 y.2).1 _ _ _ hO0.out (by decide)).cell 0;have s1:Hid (∀ w',(∃ y:Cls PS,w'=y.1)->Rd w' (fun b=>w7.heap.size<=b/\b<W2.heap.size) VB (xs.map B)):=iD (by rintro _ ⟨y,rfl⟩;exact ((hPS _).1 y.2).2);have s4:PS W2.drew:=(hPS _).2 ⟨hbi0.keep,hbi0.rd⟩;haveI : Nonempty (Cls PS):=⟨⟨_,s4⟩⟩;replace hPS:=iD hPS;replace hbi0:=iD hbi0;replace hD':=iD hD';replace hds:=iD hds;replace hp0:=iD hp0;replace htx:=iD htx;replace hfinS:=iD hfinS;refine Z9o (fun w'=>∃ y:Cls PS,w'=y.1) [([0,1,3,6,7],2),([],4),([],5),([],8),([],9)] [] 10 [] (by kernel_rfl) (by kernel_rfl) (fun _ d _ _ _ h=>by cases d <;> exact h) (by rintro ⟨_,_,h⟩;exact h) (by rfl) ⟨⟨_,s4⟩,rfl⟩ ?_;simp only[Y4,Z7,lO,lP,Zo,Zn];repeat (first | go_big_quiet_step (fail) | (refine Gu 57 9 (.tmp 46) rfl rfl 5 underlying57 underlying5 underlying9 VB xs vb rfl s1.out ?_;go_frame))
  refine lC ?_;clear hbd hrdB s0 s1 s4;intro K hK;refine Za3 _ rfl (.tmp 40) (.tmp 41) rfl w.heap.size V0 ph rfl hbi0.out.buf (fun _=>True) (some ⟨tb,0,none⟩) 32 ds (by rw[hdl];rfl) (Rd.of_blk (r:=[]) ((hbi0.out.keep _ _ _ hD'.out (by decide))) (by simp) trivial) (by omega) (by omega) (lB hlW hbi0.out.le) ?_;intro V1 y1 hv1 hg1 hn1;have hbi1:=hbi0.out.grow hlW hv1 hg1 hn1;refine hK _ _ ⟨⟨_,(hPS.out _).2 ⟨hbi1.keep,hbi1.rd⟩⟩,rfl⟩ ?_;clear hK hv1 hg1 hn1 hbi0;replace hbi1:=iD hbi1;refine lC ?_;intro K hK;go_simp;refine (hn0.out y1).mono ?_;rintro e y2 ⟨rfl,hb2⟩;have hbi2:=hbi1.out.call hlW hb2;refine hK _ _ ⟨⟨_,(hPS.out _).2 ⟨hbi2.keep,hbi2.rd⟩⟩,rfl⟩ ?_;clear hK hb2 hbi1;replace hbi2:=iD hbi2;refine lC ?_;intro K hK;refine Zk8 _ rfl (.tmp 42) (.tmp 44) rfl w.heap.size V1 (ph++ds) rfl hbi2.out.buf p0 rfl (by simp;omega) (lB hlW hbi2.out.le) ?_;intro V3 y3 hv3 hg3 hn3;have hbi3:=hbi2.out.grow hlW hv3 hg3 hn3;refine hK _ _ ⟨⟨_,(hPS.out _).2 ⟨hbi3.keep,hbi3.rd⟩⟩,rfl⟩ ?_;clear hK hv3 hg3 hn3 hbi2;replace hbi3:=iD hbi3;refine lC ?_;intro K hK;go_simp;refine (htx_.out y3).mono ?_;rintro e y4 ⟨V4,rfl,hrow4,hb4⟩;obtain⟨TA,tc,rfl,_,_⟩:=Za hrow4;have hbi4:=hbi3.out.call hlW hb4;refine hK _ _ ⟨⟨_,(hPS.out _).2 ⟨hbi4.keep,hbi4.rd⟩⟩,rfl⟩ ?_;clear hK hb4 hbi3;replace hbi4:=iD hbi4;refine lC ?_;intro K hK;refine Za3 _ rfl (.tmp 45) (.tmp 48) rfl w.heap.size V3 ((ph++ds)++p0) rfl hbi4.out.buf _ TA tc tx rfl (K1 hrow4) (by omega) (by simp;omega) (lB hlW hbi4.out.le) ?_;intro V5 y5 hv5 hg5 hn5;have hbi5:=hbi4.out.grow hlW hv5 hg5 hn5;refine hK _ _ ⟨⟨_,(hPS.out _).2 ⟨hbi5.keep,hbi5.rd⟩⟩,rfl⟩ ?_;clear hK hv5 hg5 hn5 hbi4 hrow4 hPS hn0 htx_;refine lC ?_;rw[<-hfinS.out] at hbi5;obtain⟨FA,fc,rfl,hfc⟩:=hbi5.buf.form;have hO5:=hbi5.keep _ _ _ hO0.out (by decide);have hdep5:=hbi5.keep _ _ _ hI.out.dep (by decide);have hfst5:=hbi5.keep _ _ _ hI.out.fst (by decide);have hahd5:=hbi5.keep _ _ _ hA0.out (by decide);have hres5:=hbi5.keep _ _ _ hI.out.res (by decide);have herr5:=hbi5.keep _ _ _ hI.out.err (by decide);have d6:y5.cell? ⟨w5.heap.size,0,none⟩=some V0:=hO5.cell 0;have e6:=hO5.frozen 0;have d7:y5.cell? ⟨w5.heap.size+1,0,none⟩=some (.int .i64 0):=hdep5.cell 0;have e7:=hdep5.frozen 0;have d8:y5.cell? ⟨w5.heap.size+1+1,0,none⟩=some (.bool true):=hfst5.cell 0;have e8:=hfst5.frozen 0;have d9:y5.cell? ⟨w5.heap.size+1+1+1,0,none⟩=some (.slice none 0 0):=hahd5.cell 0;have e9:=hahd5.frozen 0;clear c7 c8 c9;replace hbi5:=iD hbi5;replace hO5:=iD hO5;go_frame;go_wp2_with fail;have hO6:=hO5.out.set_ 0 (.slice FA (Xu xs).length fc);have hdep6:=hdep5.far (p:=⟨w5.heap.size,0,none⟩) (by show w5.heap.size+1 ≠ w5.heap.size;omega) (.slice FA (Xu xs).length fc);have hfst6:=hfst5.far (p:=⟨w5.heap.size,0,none⟩) (by show w5.heap.size+1+1 ≠ w5.heap.size;omega) (.slice FA (Xu xs).length fc);have hahd6:=hahd5.far (p:=⟨w5.heap.size,0,none⟩) (by show w5.heap.size+1+1+1 ≠ w5.heap.size;omega) (.slice FA (Xu xs).length fc);have hT6:Touch [w5.heap.size,w5.heap.size+1,w5.heap.size+1+1,w5.heap.size+1+1+1] y5 (y5.setCell ⟨w5.heap.size,0,none⟩ (.slice FA (Xu xs).length fc)):=Touch.setCell _ (by simp);generalize hy6:lH y5 ⟨w5.heap.size,0,none⟩ (.slice FA (Xu xs).length fc)=y6 at hO6 hdep6 hfst6 hahd6 hT6 ⊢;clear hy6 d6 e6 d7 e7 d8 e8 d9 e9;have d7:y6.cell? ⟨w5.heap.size+1,0,none⟩=some (.int .i64 0):=hdep6.cell 0;have e7:=hdep6.frozen 0;have hahd7:=hahd6.far (p:=⟨w5.heap.size+1,0,none⟩) (by show w5.heap.size+1+1+1 ≠ w5.heap.size+1;omega) (.int .i64 0);have hfst7:=hfst6.far (p:=⟨w5.heap.size+1,0,none⟩) (by show w5.heap.size+1+1 ≠ w5.heap.size+1;omega) (.int .i64 0);have hO7:=hO6.far (p:=⟨w5.heap.size+1,0,none⟩) (by show w5.heap.size ≠ w5.heap.size+1;omega) (.int .i64 0);have hdep7:=hdep6.set_ 0 (.int .i64 0);have hT7:=hT6.trans (Touch.setCell (L:=[w5.heap.size,w5.heap.size+1,w5.heap.size+1+1,w5.heap.size+1+1+1]) (w:=y6) (g:=w5.heap.size+1) (i:=0) (.int .i64 0) (by simp)) (fun i hi=>.inl hi);clear hO5 hdep5 hfst5 hahd5 hO6 hdep6 hfst6 hahd6 hT6;have g7:(y6.setCell ⟨w5.heap.size+1,0,none⟩ (.int .i64 0)).cell? ⟨w5.heap.size+1+1+1,0,none⟩=some (.slice none 0 0):=hahd7.cell 0;have f7:=hahd7.frozen 0;have hahd8:=hahd7.set_ 0 (.slice VB xs.length vb);have hfst8:=hfst7.far (p:=⟨w5.heap.size+1+1+1,0,none⟩) (by show w5.heap.size+1+1 ≠ w5.heap.size+1+1+1;omega) (.slice VB xs.length vb);have hdep8:=hdep7.far (p:=⟨w5.heap.size+1+1+1,0,none⟩) (by show w5.heap.size+1 ≠ w5.heap.size+1+1+1;omega) (.slice VB xs.length vb);have hO8:=hO7.far (p:=⟨w5.heap.size+1+1+1,0,none⟩) (by show w5.heap.size ≠ w5.heap.size+1+1+1;omega) (.slice VB xs.length vb);have hT8:=hT7.trans (Touch.setCell (L:=[w5.heap.size,w5.heap.size+1,w5.heap.size+1+1,w5.heap.size+1+1+1]) (w:=y6.setCell ⟨w5.heap.size+1,0,none⟩ (.int .i64 0)) (g:=w5.heap.size+1+1+1) (i:=0) (.slice VB xs.length vb) (by simp)) (fun i hi=>.inl hi);have g8:((y6.setCell ⟨w5.heap.size+1,0,none⟩ (.int .i64 0)).setCell ⟨w5.heap.size+1+1+1,0,none⟩ (.slice VB xs.length vb)).cell? ⟨w5.heap.size+1+1,0,none⟩=some (.bool true):=hfst8.cell 0;have f8:=hfst8.frozen 0;have hahd9:=hahd8.far (p:=⟨w5.heap.size+1+1,0,none⟩) (by show w5.heap.size+1+1+1 ≠ w5.heap.size+1+1;omega) (.bool false);have hfst9:=hfst8.set_ 0 (.bool false);have hdep9:=hdep8.far (p:=⟨w5.heap.size+1+1,0,none⟩) (by show w5.heap.size+1 ≠ w5.heap.size+1+1;omega) (.bool false);have hO9:=hO8.far (p:=⟨w5.heap.size+1+1,0,none⟩) (by show w5.heap.size ≠ w5.heap.size+1+1;omega) (.bool false);have hT9:=hT8.trans (Touch.setCell (L:=[w5.heap.size,w5.heap.size+1,w5.heap.size+1+1,w5.heap.size+1+1+1]) (w:=(y6.setCell ⟨w5.heap.size+1,0,none⟩ (.int .i64 0)).setCell ⟨w5.heap.size+1+1+1,0,none⟩ (.slice VB xs.length vb)) (g:=w5.heap.size+1+1) (i:=0) (.bool false) (by simp)) (fun i hi=>.inl hi);have g9:(((y6.setCell ⟨w5.heap.size+1,0,none⟩ (.int .i64 0)).setCell ⟨w5.heap.size+1+1+1,0,none⟩ (.slice VB xs.length vb)).setCell ⟨w5.heap.size+1+1,0,none⟩ (.bool false)).cell? ⟨w5.heap.size,0,none⟩=some (.slice FA (Xu xs).length fc):=hO9.cell 0;have hplen:(Xu xs).length<=1048544:=by
   rw[hfinS.out];simp only[lD];omega
  obtain⟨pb,hpb⟩:∃ pb,pb=Xu xs:=⟨_,rfl⟩;rw[<-hpb] at hplen g9 hO9;rw[<-hpb];replace hpb:=iD hpb;replace hO9:=iD hO9;clear hahd7 hfst7 hdep7 hO7 hT7 hahd8 hfst8 hdep8 hO8 hT8;replace hT9:=iD hT9;replace hdep9:=iD hdep9;replace hfst9:=iD hfst9;replace hahd9:=iD hahd9
  gi_wp2
  have hb5_:=hbi5.out;have hO5:=hb5_.keep _ _ _ hO0.out (by decide);have hdep5:=hb5_.keep _ _ _ hI.out.dep (by decide);have hfst5:=hb5_.keep _ _ _ hI.out.fst (by decide);have hahd5:=hb5_.keep _ _ _ hA0.out (by decide);have hres5:=hb5_.keep _ _ _ hI.out.res (by decide);have herr5:=hb5_.keep _ _ _ hI.out.err (by decide);have hnot:∀ (k:Nat) (t:TypeId) (cs:List Value),Blk y5 k t cs->t ≠ 57->t ≠ 3->t ≠ 4->k ∉ [w5.heap.size,w5.heap.size+1,w5.heap.size+1+1,w5.heap.size+1+1+1]:=fun k t cs hk h1 h2 h3 hm=>by
   simp only[lR,lS,or_false] at hm;rcases hm with rfl | rfl | rfl | rfl
   ·exact hk.ne_ hO5 h1 rfl
   ·exact hk.ne_ hdep5 h2 rfl
   ·exact hk.ne_ hfst5 h3 rfl
   ·exact hk.ne_ hahd5 h1 rfl
  have hsz9:=hT9.out.size;refine⟨hb5_.mks.trans ⟨fun k o ho hm=>Qo hT9.out ho (fun hk=>?_)⟩,trivial,lB hW (lB hb5_.le hsz9),?_,hres5.touch hT9.out (hnot _ _ _ hres5 (by decide) (by decide) (by decide)),herr5.touch hT9.out (hnot _ _ _ herr5 (by decide) (by decide) (by decide)),⟨_,hO9.out,?_,fun h=>by cases h⟩,hdep9.out,hfst9.out,⟨_,hahd9.out,fun h=>by cases h⟩⟩
  ·simp only[lR,lS,or_false] at hk;rcases hk with rfl | rfl | rfl | rfl
   ·exact Kk ho hm hO5
   ·exact Kk ho hm hdep5
   ·exact Kk ho hm hfst5
   ·exact Kk ho hm hahd5
  ·refine (hI.out.bel.trans hb5_.bel).trans (hT9.out.below (lB hlW hb5_.le) (fun i hi=>?_));simp only[lR,lS,or_false] at hi;rcases hi with rfl | rfl | rfl | rfl <;> omega
  ·rw[if_neg (by simp),hpb.out];have hb:=hb5_.buf;refine hb.stay (fun b hbb hlt=>hT9.out.block b hlt (fun hm=>?_));simp only[lR,lS,or_false] at hm;rcases hm with rfl | rfl | rfl | rfl
   ·exact hb.tag hO5 (by decide) hbb.symm
   ·exact hb.tag hdep5 (by decide) hbb.symm
   ·exact hb.tag hfst5 (by decide) hbb.symm
   ·exact hb.tag hahd5 (by decide) hbb.symm
 case done =>
  rintro D W hDl ⟨hW,hI⟩ hDe;obtain⟨V5,hO5,hbuf5,_⟩:=hI.out;rw[if_neg (by simp)] at hbuf5;obtain⟨FA,fc,rfl,hfc⟩:=hbuf5.form;have hplen:(Xu xs).length<=1048544:=by
   have h1:=Jr (n:=xs.length) (by (have : (128:Nat) ^ 9=9223372036854775808:=by decide);omega);have h2:(Z3 1).length=1:=by rw[Xq (by decide)];rfl
   have h3:(Z3 0).length=1:=by rw[Xq (by decide)];rfl
   simp only[Xu,Up,Zr,lD,h2,h3,J2,lL,lM];omega
  have hrd:Rd W (· < W.heap.size) FA ((Xu xs).map B):=hbuf5.rd.weak (fun b hlt _=>hlt);have hsum:=Ql (Xu xs) FA fc W hrd hfc (by omega) (hKb.out W hI.bel);obtain⟨pb,hpb⟩:∃ pb,pb=Xu xs:=⟨_,rfl⟩;have hpo:Xb xs=pb++Y6 pb:=by rw[hpb];rfl
  rw[<-hpb] at hO5 hbuf5 hplen hfc hsum;obtain⟨ps,hps⟩:∃ ps,ps=Y6 pb:=⟨_,rfl⟩;have hpsl:ps.length=32:=by rw[hps];exact J2 pb
  rw[<-hps] at hsum hpo;have dO:W.cell? ⟨w5.heap.size,0,none⟩=some (.slice FA pb.length fc):=hO5.cell 0;clear hrd hpb hY hdc hdz hdo hact hI7;replace hI:=iD hI;replace hO5:=iD hO5;replace hbuf5:=iD hbuf5;replace hpo:=iD hpo;replace hps:=iD hps;replace hDe:=iD hDe;dsimp only;go_wp2_with fail;refine hsum.mono ?_;rintro e W2 ⟨rfl,hb2⟩;clear hsum dO;have hpso:∀ v ∈ ps.map B,v.oneCell'=true:=Y5 _;go_upto_region 17 with (first
   | (refine Zd rfl 59 (.tmp 14) (.tmp 59) rfl W2.heap.size (ps.map B) rfl rfl 59 Z2 (Blk.new_at rfl) (by simp[hpsl,Z2]) (Zg hpsl) hpso ?_;go_frame)
   | fail)
  generalize hW3:nD _ W2.heap.size _=W3;have hD3:Blk W3 W2.heap.size 59 (ps.map B):=by rw[<-hW3];exact (Blk.new_at (cs:=Z2) rfl).setRow_same (ps.map B)
  have hb3:Below W2.heap.size W2 W3:=by rw[<-hW3];exact below_setRow ((lF _ _).alloc (lE _) (.cells Z2.toArray 59)) (lE _) (ps.map B).toArray
  have hb23:Below W.heap.size W W3:=hb2.trans (hb3.mono hb2.size);have hzW:=hI.out.bel.size;have hO3:=hO5.out.below hb23 hO5.out.lt;have hR3:=hI.out.res.below hb23 hI.out.res.lt;have hE3:=hI.out.err.below hb23 hI.out.err.lt;have hF3:=hbuf5.out.below hb23;have hDe3:W3.heap[D]?=some (.deferred (some [])):=(KeepM.below hb23).same D _ hDe.out rfl;have hbw3:Below w.heap.size w W3:=hI.out.bel.trans (hb23.mono hzW);clear hW3 hb2 hb3 hb23 hI hO5 hbuf5 hDe;have s0:W3.cell? ⟨w5.heap.size,0,none⟩=some (.slice FA pb.length fc):=hO3.cell 0;replace hD3:=iD hD3;replace hR3:=iD hR3;replace hE3:=iD hE3;replace hF3:=iD hF3;replace hO3:=iD hO3;replace hDe3:=iD hDe3;replace hbw3:=iD hbw3;refine Y7 2 (by kernel_rfl) (by kernel_rfl) ?_;simp only[lZ,l0,l3,lW];repeat (first | go_big_quiet_step (fail))
  refine lC ?_;rintro _ ⟨nq,rfl⟩;have hbd:Below W3.heap.size W3 (W3.drewN nq):=(Touch.drewN (L:=[]) nq).below (lE _) (fun _ hi=>by cases hi);have hD4:=hD3.out.drewN nq;have hR4:=hR3.out.drewN nq;have hE4:=hE3.out.drewN nq;have hF4:=hF3.out.below hbd;have hDe4:(W3.drewN nq).heap[D]?=some (.deferred (some [])):=hDe3.out;have hbw4:Below w.heap.size w (W3.drewN nq):=hbw3.out.trans (hbd.mono hbw3.out.size);have hz4:w.heap.size<=(W3.drewN nq).heap.size:=hbw4.size;clear hD3 hR3 hE3 hF3 hO3 hDe3 hbw3 s0 hbd;generalize W3.drewN nq=W4 at hD4 hR4 hE4 hF4 hDe4 hbw4 hz4 ⊢;replace hD4:=iD hD4;replace hR4:=iD hR4;replace hE4:=iD hE4;replace hF4:=iD hF4;replace hDe4:=iD hDe4;replace hbw4:=iD hbw4;refine Za2 rfl (.tmp 60) (.tmp 61) rfl w.heap.size (.slice FA pb.length fc) pb rfl hF4.out (fun _=>True) (some ⟨W2.heap.size,0,none⟩) 32 ps (by rw[hpsl];rfl) (Rd.of_blk (r:=[]) hD4.out (by simp) trivial) (by omega) (by omega) hz4 ?_;intro V6 y6 hv6 hg6 hn6;have hR6:=hR4.out.grown hg6 (hF4.out.tag hR4.out (by decide));have hE6:=hE4.out.grown hg6 (hF4.out.tag hE4.out (by decide));have hDe6:y6.heap[D]?=some (.deferred (some [])):=(hg6.block D (Qc hDe4.out) (fun e=>by
   obtain⟨_,cs,fz,hc⟩:=hF4.out.cells e.symm;rw[hDe4.out] at hc;cases hc)).trans hDe4.out
  have hbw6:Below w.heap.size w y6:=hbw4.out.trans ((lF _ _).grown hg6 hz4 (fun k hk=>(hF4.out.cells hk).1));clear hg6 hn6 hD4 hR4 hE4 hF4 hDe4 hbw4;obtain⟨GA,gc,rfl,hgc⟩:=hv6.form;rw[<-hpo.out] at hv6;have hrd6:Rd y6 (fun _=>True) GA ((Xb xs).map B):=hv6.rd.weak (fun _ _ _=>trivial);have hpol:(pb++ps).length=(Xb xs).length:=by rw[hpo.out]
  rw[hpol];obtain⟨po,hpoo⟩:∃ po,po=Xb xs:=⟨_,rfl⟩;rw[<-hpoo] at hrd6 ⊢;replace hpoo:=iD hpoo;have q2:y6.cell? ⟨w.heap.size,0,none⟩=some (.string ⟨#[]⟩):=hR6.cell 0;have r2:=hR6.frozen 0;have hR7:=hR6.set_ 0 (.string ⟨po.toArray⟩);have hE7:=hE6.far (p:=⟨w.heap.size,0,none⟩) (by show w.heap.size+1 ≠ w.heap.size;omega) (.string ⟨po.toArray⟩);have q3:(y6.setCell ⟨w.heap.size,0,none⟩ (.string ⟨po.toArray⟩)).cell? ⟨w.heap.size+1,0,none⟩=some (.int .i64 0):=hE7.cell 0;have r3:=hE7.frozen 0;have hE8:=hE7.set_ 0 (.int .i64 0);have hR8:=hR7.far (p:=⟨w.heap.size+1,0,none⟩) (by show w.heap.size ≠ w.heap.size+1;omega) (.int .i64 0);have hT8:=(Touch.setCell (L:=[w.heap.size,w.heap.size+1]) (w:=y6) (g:=w.heap.size) (i:=0) (.string ⟨po.toArray⟩) (by simp)).trans (Touch.setCell (L:=[w.heap.size,w.heap.size+1]) (w:=y6.setCell ⟨w.heap.size,0,none⟩ (.string ⟨po.toArray⟩)) (g:=w.heap.size+1) (i:=0) (.int .i64 0) (by simp)) (fun i hi=>.inl hi);have hDe8:=Qo hT8 hDe6 (fun hm=>by
   simp only[lR,lS,or_false] at hm;rcases hm with rfl | rfl
   ·exact Kk hDe6 rfl hR6
   ·exact Kk hDe6 rfl hE6)
  have hbw8:=hbw6.trans (hT8.below hbw6.size (fun i hi=>by
   simp only[lR,lS,or_false] at hi;rcases hi with rfl | rfl <;> omega))
  clear hR6 hE6 hR7 hE7 hT8 hDe6 hbw6 hv6 hgc hpol;replace hrd6:=iD hrd6;replace hE8:=iD hE8;replace hR8:=iD hR8;replace hDe8:=iD hDe8;replace hbw8:=iD hbw8;go_frame;go_wp2_with (first
   | (refine Qf rfl 57 9 (.tmp 62) rfl 5 underlying57 underlying5 underlying9 GA po gc rfl hrd6.out ?_;go_frame)
   | fail)
  generalize hW9:lH _ _ _=W9 at hE8 hR8 hDe8 hbw8;have hbf:Below w.heap.size w (W9.putObj D (.deferred none)):=hbw8.out.grown (grownBy_putObj' W9 D (.deferred none)) hbw8.out.size (fun k e=>by cases e;omega);refine Z25 hDe8.out (.tuple #[.string ⟨po.toArray⟩,.int .i64 0]) ?_ ?_
  rotate_left
  ·exact⟨by rw[hpoo.out],hbf⟩
  refine Zk9 (p:=2) (q:=3) rfl _ _ _ w.heap.size (w.heap.size+1) 9 23 (.string ⟨po.toArray⟩) (.int .i64 0) _ rfl rfl (hR8.out.put hDe8.out rfl _) (hE8.out.put hDe8.out rfl _) underlying9 underlying23
end
section
set_option maxRecDepth 100000
set_option maxHeartbeats 16000000
open Go.Lib renaming hid → iD
open Go.Proofs.Tryz
open Go.RowKit
theorem exec_build2v{P:Program}{w:World}{o:Oper}{a:Act}(t:TypeId)(i0 i1:Nat)(x0 x1:Operand)(ho:o.op=.build t #[(i0,x0),(i1,x1)])(V0 V1 r:Value)(h0:a.eval x0=V0)(h1:a.eval x1=V1)
  (h:(nT t #[(i0,V0),(i1,V1)]).run P w=.ok r w):(execOp a.eval o).run P w=.ok (.value r) w:=by
 subst h0 h1;simp[execOp,ho,h]
theorem Oe(k:Int)(l o:Bool)(c:Str)(n:Int)(b:UInt8):Z9 ⟨k,l,⟨o,c,n⟩,b⟩=([.int .i64 k,.bool l,.bool o]++c.map B)++[.int .i64 n,B b]:=by simp[Z9,Z4]
theorem oc35{k:Int}{l o:Bool}{c:Str}{n:Int}{b:UInt8}(h:c.length=32):(Z9 ⟨k,l,⟨o,c,n⟩,b⟩)[35]?=some (.int .i64 n):=by
 rw[Oe,l7 (by simp[h])];simp[h]
theorem oc36{k:Int}{l o:Bool}{c:Str}{n:Int}{b:UInt8}(h:c.length=32):(Z9 ⟨k,l,⟨o,c,n⟩,b⟩)[36]?=some (B b):=by
 rw[Oe,l7 (by simp[h])];simp[h]
theorem upd_n{k:Int}{l o:Bool}{c:Str}{n m:Int}{b:UInt8}(h:c.length=32):(Z9 ⟨k,l,⟨o,c,n⟩,b⟩).set 35 (.int .i64 m)=Z9 ⟨k,l,⟨o,c,m⟩,b⟩:=by
 rw[Oe,Oe,n2 _ _ (by simp[h])];simp[h]
theorem Za6{k:Int}{l o:Bool}{c:Str}{n:Int}{b d:UInt8}(h:c.length=32):(Z9 ⟨k,l,⟨o,c,n⟩,b⟩).set 36 (B d)=Z9 ⟨k,l,⟨o,c,n⟩,d⟩:=by
 rw[Oe,Oe,n2 _ _ (by simp[h])];simp[h]
theorem Zkf(b:UInt8)(s:Str)(A:Option Addr)(c k g n0:Nat)(r:Str)(cs:List Value)(w:World)(hB:Blk w g 384 (.slice A s.length c :: .int .i64 (k:Int) :: cs))(hR:Src n0 g w A s)(hn0:n0<=w.heap.size)(hk:k<=s.length)(hs:s.length<=1099511627776)(hc:s.length<=c)
  (hd:s.drop k=opS ⟨1,false,⟨false,Yf,0⟩,b⟩++r) :
  Calls lA 321 #[.pointer (some ⟨g,0,none⟩)] w fun e w'=>e=.returned (.agg (Z9 ⟨1,false,⟨false,Yf,0⟩,b⟩).toArray)/\Blk w' g 384 (.slice A s.length c :: .int .i64 ((k+(opS ⟨1,false,⟨false,Yf,0⟩,b⟩).length:Nat):Int) :: cs)/\Touch [g] w w':=by
 have e0:opS ⟨1,false,⟨false,Yf,0⟩,b⟩=Z3 0++[b]:=by rfl
 rw[e0] at hd ⊢;have el:(Z3 0).length=1:=by rw[Xq (by decide)];rfl
 have hks:k+(1+1)<=s.length:=by
  have:=congrArg lT hd;simp only[lU,lD,el,lL,lM] at this;omega
 have hlen:(Z3 0++[b]).length=1+1:=by
  simp only[lD,el,lL,lM];try omega
 rw[hlen];have d0:s.drop k=Z3 0++([b]++r):=by rw[hd];simp only[lQ]
 have d1:s.drop (k+1)=[b]++r:=by rw[<-lN,d0,lI el]
 have hnum:=iD (fun W (hB:Blk W g 384 (.slice A s.length c :: .int .i64 (k:Int) :: cs)) hR=>Z06 s A c k 0 g n0 _ 384 cs W hB hR hk hs (by decide) d0);rw[el] at hnum;have d3:s.drop (k+1)=[b]++r:=d1;have hbyt:=iD (fun W (hB:Blk W g 384 (.slice A s.length c :: .int .i64 ((k+1:Nat):Int) :: cs)) hR=>Z84 s A c (k+1) g n0 [b] r 384 cs W hB hR (by omega) hs hc d3);have hrf:=iD G0;have q1:(bits lJ lK 0 1 != 0)=false:=by decide
 have q2:(bits lJ lK 0 2 != 0)=false:=by decide
 have q4:(bits lJ lK 0 4 != 0)=false:=by decide
 have q8:(bits lJ lK 0 8 != 0)=false:=by decide
 have q12:(bits lJ lK 0 12 != 0)=false:=by decide
 have hg:=hB.lt;clear d0 d1 hd e0;replace d3:=iD d3;replace hB:=iD hB;replace hR:=iD hR;go_enter func321,ntmps321;go_wp2_with fail;generalize hW1:lG w _=w1;have hZ1:Blk w1 w.heap.size 278 Yn:=by rw[<-hW1];exact Blk.new_at (cs:=Yn) rfl
 have hb1:Below w.heap.size w w1:=by rw[<-hW1];exact bL
 have hlt1:w.heap.size<w1.heap.size:=hZ1.lt;have hB1:=hB.out.below hb1 hg;have hR1:Src n0 g w1 A s:=hR.out.touch (Touch.ofBelow hb1) hn0;clear hW1;refine (hnum.out w1 hB1 hR1).mono ?_;rintro e w2 ⟨rfl,hB2,hT2⟩;have hR2:=hR1.touch hT2 (lB hn0 hb1.size);have hZ2:=hZ1.touch hT2 (by simp;omega);have hlt2:w.heap.size<w2.heap.size:=nK hlt1 hT2.size;have hT02:Touch [g] w w2:=(Touch.ofBelow hb1).trans hT2 (fun i hi=>.inl hi);clear hB1 hR1 hZ1 hT2 hnum hlt1;replace hB2:=iD hB2;replace hR2:=iD hR2;replace hZ2:=iD hZ2;replace hT02:=iD hT02;go_wp2_with fail;refine (hrf.out _ _ _).mono ?_;rintro e w3 ⟨rfl,rfl⟩;go_upto_region 3 with fail;obtain⟨cz,hcz⟩:∃ cz,cz=Z9 ⟨1,false,⟨false,Yf,0⟩,0⟩:=⟨_,rfl⟩;have hbv:∀ W,(nT 278 #[(0,.int .i64 1),(1,.bool false)]).run lA W=.ok (.agg cz.toArray) W:=fun W=>by rw[hcz];exact Z85 false W
 replace hcz:=iD hcz;go_upto_region 4 with (first
  | (refine Y2 (.build 278 #[(0,.const (.int .i64 1)),(1,.tmp 17)]) rfl rfl (.agg cz.toArray) (exec_build2v 278 0 1 (.const (.int .i64 1)) (.tmp 17) rfl (.int .i64 1) (.bool false) _ rfl rfl (hbv _)) ?_;go_frame)
  | (refine Zd rfl 278 (.tmp 4) (.tmp 18) rfl w3.heap.size cz rfl rfl 278 Yn (Blk.new_at rfl) (by rw[hcz.out];rfl) (by rw[hcz.out];rw[Jo ⟨rfl,by decide,by decide,by decide,by decide⟩];kernel_rfl) (by rw[hcz.out];exact Kw _) ?_;go_frame)
  | fail)
 generalize hW4:nD _ w3.heap.size cz.toArray=w4;have hX4:Blk w4 w3.heap.size 278 (Z9 ⟨1,false,⟨false,Yf,0⟩,0⟩):=by rw[<-hcz.out,<-hW4];exact (Blk.new_at (cs:=Yn) rfl).setRow_same cz
 have hb4:Below w3.heap.size w3 w4:=by rw[<-hW4];exact below_setRow ((lF _ _).alloc (lE _) (.cells Yn.toArray 278)) (lE _) cz.toArray
 have hB4:=hB2.out.below hb4 hB2.out.lt;have hR4:Src n0 g w4 A s:=hR2.out.touch (Touch.ofBelow hb4) (lB hn0 hT02.out.size);have hZ4:=hZ2.out.below hb4 hZ2.out.lt;have hT4:Touch [g] w w4:=hT02.out.trans (Touch.ofBelow hb4) (fun i hi=>.inl hi);obtain⟨x,hx⟩:∃ x,x=w3.heap.size:=⟨_,rfl⟩;rw[<-hx] at hX4 ⊢;have hgx:g ≠ x:=by have:=hB2.out.lt;omega
 have hzx:w.heap.size ≠ x:=by omega
 have hxw:w.heap.size<=x:=by omega
 replace hx:=iD hx;clear hW4 hB2 hR2 hZ2 hT02 hbv hcz hlt2 hb4;replace hB4:=iD hB4;replace hR4:=iD hR4;replace hZ4:=iD hZ4;replace hX4:=iD hX4;replace hT4:=iD hT4;have c4:w4.cell? ⟨x,0,none⟩=some (.int .i64 1):=hX4.out.cell 0;go_wp2_with fail;have hn12:=lB hn0 hT4.out.size;refine (hbyt.out w4 hB4.out hR4.out).mono ?_;rintro e w12 ⟨A',c',rfl,hrd,hB12,hT'12⟩;obtain⟨ab,ao,rfl,_,_,hac⟩:=hrd.at (by simp);have hac0:w12.cell? ⟨ab,ao,none⟩=some (B b):=by simpa using hac 0 (B b) rfl
 have hR12:=hR4.out.touch hT'12 hn12;have hX12:=hX4.out.touch hT'12 (by have:=hgx;simp;omega);have hZ12:=hZ4.out.touch hT'12 (by simp;omega);have hT12:Touch [g] w w12:=hT4.out.trans hT'12 (fun i hi=>.inl hi);clear hB4 hR4 hZ4 hX4 hT4 hT'12 hbyt hac hrd c4;have f12:=hX12.frozen 36;have k12:w12.cell? ⟨x,36,none⟩=some (B 0):=(hX12.cell 36).trans (oc36 rfl);replace hB12:=iD hB12;replace hR12:=iD hR12;replace hZ12:=iD hZ12;replace hX12:=iD hX12;replace hT12:=iD hT12;go_upto_region 14 with fail;generalize hW13:lH w12 _ _=w13;have hX13:Blk w13 x 278 (Z9 ⟨1,false,⟨false,Yf,0⟩,b⟩):=by rw[<-hW13];have h:=hX12.out.set_ 36 (B b);rw[Za6 rfl] at h;exact h
 have ht13:Touch [x] w12 w13:=by rw[<-hW13];exact Touch.setCell _ (by simp)
 have hB13:=hB12.out.touch ht13 (by simpa using hgx);have hR13:Src n0 g w13 A s:=hR12.out.stay (fun b hb hlt=>ht13.block b hlt (by have:=hT12.out.size;simp;omega)) (fun _ h _=>h);have hZ13:=hZ12.out.touch ht13 (by simpa using hzx);have hT13:Touch [g] w w13:=hT12.out.trans ht13 (fun i hi=>.inr (by simp at hi;omega));clear hW13 ht13 hB12 hR12 hZ12 hX12 hT12;clear f12 k12 hac0;replace hB13:=iD hB13;replace hR13:=iD hR13;replace hZ13:=iD hZ13;replace hX13:=iD hX13;replace hT13:=iD hT13;obtain⟨cz,hcz⟩:∃ cz,cz=Z9 ⟨1,false,⟨false,Yf,0⟩,b⟩:=⟨_,rfl⟩;have hczl:(lA.info? 278).map (·.size)=some cz.length:=by rw[hcz,Jo ⟨rfl,by simp only;omega,by simp only;omega,by simp only;omega,by simp only;omega⟩];kernel_rfl
 have hczz:Yn.length=cz.length:=by rw[hcz,Jo ⟨rfl,by simp only;omega,by simp only;omega,by simp only;omega,by simp only;omega⟩];rfl
 have hczo:∀ v ∈ cz,v.oneCell'=true:=by rw[hcz];exact Kw _
 have hXz:Blk w13 x 278 cz:=by rw[hcz];exact hX13.out
 replace hcz:=iD hcz;replace hczo:=iD hczo;replace hczl:=iD hczl;replace hXz:=iD hXz;go_wp2_with (first
  | (refine Zy rfl 278 (.tmp 4) rfl x rfl 278 cz hXz.out _ underlying278 rfl hczl.out ?_;go_frame)
  | (refine Zd rfl 278 (.tmp 2) (.tmp 64) rfl w.heap.size cz rfl rfl 278 Yn hZ13.out hczz hczl.out hczo.out ?_;go_frame)
  | fail)
 exact Qe rfl w.heap.size 278 cz _ rfl (hZ13.out.setRow_same _) underlying278 rfl hczl.out rfl ⟨by rw[hcz.out],by
  have h:=hB13.out.setRow_far (show g ≠ w.heap.size by omega) cz.toArray;rw[show k+1+[b].length=k+(1+1) by (try simp only[lL,lM]) <;> omega] at h;exact h,hT13.out.trans (Touch.setRow (L:=[w.heap.size]) (by simp) _) (fun i hi=>.inr (by simp at hi;omega))⟩
theorem Zkg(n:Nat)(b:UInt8)(h0:0<n)(h1:n<=2000)(s:Str)(A:Option Addr)(c k g n0:Nat)(r:Str)(cs:List Value)(w:World)(hB:Blk w g 384 (.slice A s.length c :: .int .i64 (k:Int) :: cs))(hR:Src n0 g w A s)(hn0:n0<=w.heap.size)(hk:k<=s.length)(hs:s.length<=1099511627776)(hc:s.length<=c)
  (hd:s.drop k=opS ⟨1,false,⟨true,Yf,(n:Int)⟩,b⟩++r) :
  Calls lA 321 #[.pointer (some ⟨g,0,none⟩)] w fun e w'=>e=.returned (.agg (Z9 ⟨1,false,⟨true,Yf,(n:Int)⟩,b⟩).toArray)/\Blk w' g 384 (.slice A s.length c :: .int .i64 ((k+(opS ⟨1,false,⟨true,Yf,(n:Int)⟩,b⟩).length:Nat):Int) :: cs)/\Touch [g] w w':=by
 have e0:opS ⟨1,false,⟨true,Yf,(n:Int)⟩,b⟩=Z3 4++Z3 n++[b]:=by simp[opS,atS,opN]
 rw[e0] at hd ⊢;have el:(Z3 4).length=1:=by rw[Xq (by decide)];rfl
 obtain⟨ln,hln⟩:∃ ln,ln=(Z3 n).length:=⟨_,rfl⟩;have hks:k+(1+ln+1)<=s.length:=by
  have:=congrArg lT hd;simp only[lU,lD,el,<-hln,lL,lM] at this;omega
 have hlen:(Z3 4++Z3 n++[b]).length=1+ln+1:=by
  simp only[lD,el,<-hln,lL,lM];try omega
 rw[hlen];have d0:s.drop k=Z3 4++(Z3 n++([b]++r)):=by rw[hd];simp only[lQ]
 have d1:s.drop (k+1)=Z3 n++([b]++r):=by rw[<-lN,d0,lI el]
 have hnum:=iD (fun W (hB:Blk W g 384 (.slice A s.length c :: .int .i64 (k:Int) :: cs)) hR=>Z06 s A c k 4 g n0 _ 384 cs W hB hR hk hs (by decide) d0);rw[el] at hnum;have hn9:n<128 ^ 9:=Nat.lt_of_le_of_lt h1 (by decide);have hnum2:=iD (fun W (hB:Blk W g 384 (.slice A s.length c :: .int .i64 ((k+1:Nat):Int) :: cs)) hR=>Z06 s A c (k+1) n g n0 _ 384 cs W hB hR (by omega) hs hn9 d1);have d3:s.drop (k+1+ln)=[b]++r:=by rw[<-lN,d1,lI hln.symm]
 rw[<-hln] at hnum2;have hnz:decide ((n:Int)=0)=false:=by simp;omega
 have hnb:((n:Int) == 0)=false:=by simp;omega
 have hbyt:=iD (fun W (hB:Blk W g 384 (.slice A s.length c :: .int .i64 ((k+1+ln:Nat):Int) :: cs)) hR=>Z84 s A c (k+1+ln) g n0 [b] r 384 cs W hB hR (by omega) hs hc d3);have hrf:=iD G0;have q1:(bits lJ lK 4 1 != 0)=false:=by decide
 have q2:(bits lJ lK 4 2 != 0)=false:=by decide
 have q4:(bits lJ lK 4 4 != 0)=true:=by decide
 have q8:(bits lJ lK 4 8 != 0)=false:=by decide
 have q12:(bits lJ lK 4 12 != 0)=true:=by decide
 have hg:=hB.lt;clear d0 d1 hd e0;replace d3:=iD d3;replace hB:=iD hB;replace hR:=iD hR;replace hln:=iD hln;go_enter func321,ntmps321;go_wp2_with fail;generalize hW1:lG w _=w1;have hZ1:Blk w1 w.heap.size 278 Yn:=by rw[<-hW1];exact Blk.new_at (cs:=Yn) rfl
 have hb1:Below w.heap.size w w1:=by rw[<-hW1];exact bL
 have hlt1:w.heap.size<w1.heap.size:=hZ1.lt;have hB1:=hB.out.below hb1 hg;have hR1:Src n0 g w1 A s:=hR.out.touch (Touch.ofBelow hb1) hn0;clear hW1;refine (hnum.out w1 hB1 hR1).mono ?_;rintro e w2 ⟨rfl,hB2,hT2⟩;have hR2:=hR1.touch hT2 (lB hn0 hb1.size);have hZ2:=hZ1.touch hT2 (by simp;omega);have hlt2:w.heap.size<w2.heap.size:=nK hlt1 hT2.size;have hT02:Touch [g] w w2:=(Touch.ofBelow hb1).trans hT2 (fun i hi=>.inl hi);clear hB1 hR1 hZ1 hT2 hnum hlt1;replace hB2:=iD hB2;replace hR2:=iD hR2;replace hZ2:=iD hZ2;replace hT02:=iD hT02;go_wp2_with fail;refine (hrf.out _ _ _).mono ?_;rintro e w3 ⟨rfl,rfl⟩;go_upto_region 3 with fail;obtain⟨cz,hcz⟩:∃ cz,cz=Z9 ⟨1,false,⟨false,Yf,0⟩,0⟩:=⟨_,rfl⟩;have hbv:∀ W,(nT 278 #[(0,.int .i64 1),(1,.bool false)]).run lA W=.ok (.agg cz.toArray) W:=fun W=>by rw[hcz];exact Z85 false W
 replace hcz:=iD hcz;go_upto_region 4 with (first
  | (refine Y2 (.build 278 #[(0,.const (.int .i64 1)),(1,.tmp 17)]) rfl rfl (.agg cz.toArray) (exec_build2v 278 0 1 (.const (.int .i64 1)) (.tmp 17) rfl (.int .i64 1) (.bool false) _ rfl rfl (hbv _)) ?_;go_frame)
  | (refine Zd rfl 278 (.tmp 4) (.tmp 18) rfl w3.heap.size cz rfl rfl 278 Yn (Blk.new_at rfl) (by rw[hcz.out];rfl) (by rw[hcz.out];rw[Jo ⟨rfl,by decide,by decide,by decide,by decide⟩];kernel_rfl) (by rw[hcz.out];exact Kw _) ?_;go_frame)
  | fail)
 generalize hW4:nD _ w3.heap.size cz.toArray=w4;have hX4:Blk w4 w3.heap.size 278 (Z9 ⟨1,false,⟨false,Yf,0⟩,0⟩):=by rw[<-hcz.out,<-hW4];exact (Blk.new_at (cs:=Yn) rfl).setRow_same cz
 have hb4:Below w3.heap.size w3 w4:=by rw[<-hW4];exact below_setRow ((lF _ _).alloc (lE _) (.cells Yn.toArray 278)) (lE _) cz.toArray
 have hB4:=hB2.out.below hb4 hB2.out.lt;have hR4:Src n0 g w4 A s:=hR2.out.touch (Touch.ofBelow hb4) (lB hn0 hT02.out.size);have hZ4:=hZ2.out.below hb4 hZ2.out.lt;have hT4:Touch [g] w w4:=hT02.out.trans (Touch.ofBelow hb4) (fun i hi=>.inl hi);obtain⟨x,hx⟩:∃ x,x=w3.heap.size:=⟨_,rfl⟩;rw[<-hx] at hX4 ⊢;have hgx:g ≠ x:=by have:=hB2.out.lt;omega
 have hzx:w.heap.size ≠ x:=by omega
 have hxw:w.heap.size<=x:=by omega
 replace hx:=iD hx;clear hW4 hB2 hR2 hZ2 hT02 hbv hcz hlt2 hb4;have f4:=hX4.frozen 2;have k4:w4.cell? ⟨x,2,none⟩=some (.bool false):=hX4.cell 2;replace hB4:=iD hB4;replace hR4:=iD hR4;replace hZ4:=iD hZ4;replace hX4:=iD hX4;replace hT4:=iD hT4;go_upto_region 10 with fail;generalize hW8:lH w4 _ _=w8;have hX8:Blk w8 x 278 (Z9 ⟨1,false,⟨true,Yf,0⟩,0⟩):=by rw[<-hW8];have h:=hX4.out.set_ 2 (.bool true);exact h
 have ht8:Touch [x] w4 w8:=by rw[<-hW8];exact Touch.setCell _ (by simp)
 have hB8:=hB4.out.touch ht8 (by simpa using hgx);have hR8:Src n0 g w8 A s:=hR4.out.stay (fun b hb hlt=>ht8.block b hlt (by have:=hT4.out.size;simp;omega)) (fun _ h _=>h);have hZ8:=hZ4.out.touch ht8 (by simpa using hzx);have hT8:Touch [g] w w8:=hT4.out.trans ht8 (fun i hi=>.inr (by simp at hi;omega));clear hW8 ht8 hB4 hR4 hZ4 hX4 hT4;clear f4 k4;replace hB8:=iD hB8;replace hR8:=iD hR8;replace hZ8:=iD hZ8;replace hX8:=iD hX8;replace hT8:=iD hT8;go_wp2_with fail;have hn9:=lB hn0 hT8.out.size;refine (hnum2.out w8 hB8.out hR8.out).mono ?_;rintro e w9 ⟨rfl,hB9,hT'9⟩;have hR9:=hR8.out.touch hT'9 hn9;have hX9:=hX8.out.touch hT'9 (by have:=hgx;simp;omega);have hZ9:=hZ8.out.touch hT'9 (by simp;omega);have hT9:Touch [g] w w9:=hT8.out.trans hT'9 (fun i hi=>.inl hi);clear hB8 hR8 hZ8 hX8 hT8 hT'9 hnum2;have f9:=hX9.frozen 35;have k9:w9.cell? ⟨x,35,none⟩=some (.int .i64 0):=(hX9.cell 35).trans (oc35 rfl);replace hB9:=iD hB9;replace hR9:=iD hR9;replace hZ9:=iD hZ9;replace hX9:=iD hX9;replace hT9:=iD hT9;go_upto_region 11 with fail;generalize hW10:lH w9 _ _=w10;have hX10:Blk w10 x 278 (Z9 ⟨1,false,⟨true,Yf,(n:Int)⟩,0⟩):=by rw[<-hW10];have h:=hX9.out.set_ 35 (.int .i64 (n:Int));rw[upd_n rfl] at h;exact h
 have ht10:Touch [x] w9 w10:=by rw[<-hW10];exact Touch.setCell _ (by simp)
 have hB10:=hB9.out.touch ht10 (by simpa using hgx);have hR10:Src n0 g w10 A s:=hR9.out.stay (fun b hb hlt=>ht10.block b hlt (by have:=hT9.out.size;simp;omega)) (fun _ h _=>h);have hZ10:=hZ9.out.touch ht10 (by simpa using hzx);have hT10:Touch [g] w w10:=hT9.out.trans ht10 (fun i hi=>.inr (by simp at hi;omega));clear hW10 ht10 hB9 hR9 hZ9 hX9 hT9;clear f9 k9;have c10:w10.cell? ⟨x,35,none⟩=some (.int .i64 (n:Int)):=by
  have h:=hX10.cell 35;rw[h,Oe,l7 (by simp[Yf])];simp[Yf]
 replace hB10:=iD hB10;replace hR10:=iD hR10;replace hZ10:=iD hZ10;replace hX10:=iD hX10;replace hT10:=iD hT10;refine Y7 7 (by kernel_rfl) (by kernel_rfl) ?_;simp only[lZ,l0,l3,lW];repeat (first | go_big_quiet_step (fail))
 refine lC ?_;rintro _ ⟨nq,rfl⟩;clear c10;go_wp2_with fail;refine (hrf.out _ _ _).mono ?_;rintro e w11 ⟨rfl,hw11⟩;have ht11:Touch [x] w10 w11:=by rw[hw11];exact Touch.drewN nq
 have hX11:Blk w11 x 278 (Z9 ⟨1,false,⟨true,Yf,(n:Int)⟩,0⟩):=by rw[hw11];exact hX10.out.drewN nq
 have hB11:=hB10.out.touch ht11 (by simpa using hgx);have hR11:Src n0 g w11 A s:=hR10.out.stay (fun b hb hlt=>ht11.block b hlt (by have:=hT10.out.size;simp;omega)) (fun _ h _=>h);have hZ11:=hZ10.out.touch ht11 (by simpa using hzx);have hT11:Touch [g] w w11:=hT10.out.trans ht11 (fun i hi=>.inr (by simp at hi;omega));clear hw11 ht11 hB10 hR10 hZ10 hX10 hT10;have c11:w11.cell? ⟨x,0,none⟩=some (.int .i64 1):=hX11.cell 0;replace hB11:=iD hB11;replace hR11:=iD hR11;replace hZ11:=iD hZ11;replace hX11:=iD hX11;replace hT11:=iD hT11;go_wp2_with fail;have hn12:=lB hn0 hT11.out.size;refine (hbyt.out w11 hB11.out hR11.out).mono ?_;rintro e w12 ⟨A',c',rfl,hrd,hB12,hT'12⟩;obtain⟨ab,ao,rfl,_,_,hac⟩:=hrd.at (by simp);have hac0:w12.cell? ⟨ab,ao,none⟩=some (B b):=by simpa using hac 0 (B b) rfl
 have hR12:=hR11.out.touch hT'12 hn12;have hX12:=hX11.out.touch hT'12 (by have:=hgx;simp;omega);have hZ12:=hZ11.out.touch hT'12 (by simp;omega);have hT12:Touch [g] w w12:=hT11.out.trans hT'12 (fun i hi=>.inl hi);clear hB11 hR11 hZ11 hX11 hT11 hT'12 hbyt hac hrd c11;have f12:=hX12.frozen 36;have k12:w12.cell? ⟨x,36,none⟩=some (B 0):=(hX12.cell 36).trans (oc36 rfl);replace hB12:=iD hB12;replace hR12:=iD hR12;replace hZ12:=iD hZ12;replace hX12:=iD hX12;replace hT12:=iD hT12;go_upto_region 14 with fail;generalize hW13:lH w12 _ _=w13;have hX13:Blk w13 x 278 (Z9 ⟨1,false,⟨true,Yf,(n:Int)⟩,b⟩):=by rw[<-hW13];have h:=hX12.out.set_ 36 (B b);rw[Za6 rfl] at h;exact h
 have ht13:Touch [x] w12 w13:=by rw[<-hW13];exact Touch.setCell _ (by simp)
 have hB13:=hB12.out.touch ht13 (by simpa using hgx);have hR13:Src n0 g w13 A s:=hR12.out.stay (fun b hb hlt=>ht13.block b hlt (by have:=hT12.out.size;simp;omega)) (fun _ h _=>h);have hZ13:=hZ12.out.touch ht13 (by simpa using hzx);have hT13:Touch [g] w w13:=hT12.out.trans ht13 (fun i hi=>.inr (by simp at hi;omega));clear hW13 ht13 hB12 hR12 hZ12 hX12 hT12;clear f12 k12 hac0;replace hB13:=iD hB13;replace hR13:=iD hR13;replace hZ13:=iD hZ13;replace hX13:=iD hX13;replace hT13:=iD hT13;obtain⟨cz,hcz⟩:∃ cz,cz=Z9 ⟨1,false,⟨true,Yf,(n:Int)⟩,b⟩:=⟨_,rfl⟩;have hczl:(lA.info? 278).map (·.size)=some cz.length:=by rw[hcz,Jo ⟨rfl,by simp only;omega,by simp only;omega,by simp only;omega,by simp only;omega⟩];kernel_rfl
 have hczz:Yn.length=cz.length:=by rw[hcz,Jo ⟨rfl,by simp only;omega,by simp only;omega,by simp only;omega,by simp only;omega⟩];rfl
 have hczo:∀ v ∈ cz,v.oneCell'=true:=by rw[hcz];exact Kw _
 have hXz:Blk w13 x 278 cz:=by rw[hcz];exact hX13.out
 replace hcz:=iD hcz;replace hczo:=iD hczo;replace hczl:=iD hczl;replace hXz:=iD hXz;go_wp2_with (first
  | (refine Zy rfl 278 (.tmp 4) rfl x rfl 278 cz hXz.out _ underlying278 rfl hczl.out ?_;go_frame)
  | (refine Zd rfl 278 (.tmp 2) (.tmp 64) rfl w.heap.size cz rfl rfl 278 Yn hZ13.out hczz hczl.out hczo.out ?_;go_frame)
  | fail)
 exact Qe rfl w.heap.size 278 cz _ rfl (hZ13.out.setRow_same _) underlying278 rfl hczl.out rfl ⟨by rw[hcz.out],by
  have h:=hB13.out.setRow_far (show g ≠ w.heap.size by omega) cz.toArray;rw[show k+1+ln+[b].length=k+(1+ln+1) by (try simp only[lL,lM]) <;> omega] at h;exact h,hT13.out.trans (Touch.setRow (L:=[w.heap.size]) (by simp) _) (fun i hi=>.inr (by simp at hi;omega))⟩
end
section
set_option maxRecDepth 100000
set_option maxHeartbeats 16000000
open Go.Lib renaming hid → iD
open Go.Proofs.Tryz
open Go.RowKit
theorem Za7(s:Str)(A:Option Addr)(c k g n0:Nat)(u r:Str)(t:TypeId)(cs:List Value)(w:World)(hB:Blk w g t (.slice A s.length c :: .int .i64 (k:Int) :: cs))(hR:Src n0 g w A s)(hk:k<=s.length)(hs:s.length<=1099511627776)(hc:s.length<=c)(hu:u.length<=131072)
  (hd:s.drop k=Zr u++r) :
  Calls lA 320 #[.pointer (some ⟨g,0,none⟩)] w fun e w'=>e=.returned (.string ⟨u.toArray⟩)/\Blk w' g t (.slice A s.length c :: .int .i64 ((k+(Zr u).length:Nat):Int) :: cs)/\Touch [g] w w':=by
 have hl:s.length - r.length=k+(Zr u).length:=by
  have:=congrArg lT hd;rw[lU,lD] at this;omega
 have hp:(131072:Nat)<128 ^ 9:=by decide
 refine (Zd6 s A c k g u r t cs w hB (hR.weak (fun _ _ h=>h.1)) hk hs (by rw[hd];unfold Zr;rw[lQ];exact Ow (by omega) hu (by omega)) hc).mono ?_;rintro e w' ⟨he,q,rfl⟩;rw[hl];exact⟨he,(hB.drewN q).set_ 1 _,(Touch.drewN q).trans (Touch.setCell _ (by simp)) (fun i hi=>.inl hi)⟩
theorem Zkh(m:Nat)(b:UInt8)(hm:m<=2000)(s:Str)(A:Option Addr)(c k g n0:Nat)(r:Str)(cs:List Value)(w:World)(hB:Blk w g 384 (.slice A s.length c :: .int .i64 (k:Int) :: cs))(hR:Src n0 g w A s)(hn0:n0<=w.heap.size)(hk:k<=s.length)(hs:s.length<=1099511627776)(hc:s.length<=c)
  (hd:s.drop k=opS (Zb m b)++r) :
  Calls lA 321 #[.pointer (some ⟨g,0,none⟩)] w fun e w'=>e=.returned (.agg (Z9 (Zb m b)).toArray)/\Blk w' g 384 (.slice A s.length c :: .int .i64 ((k+(opS (Zb m b)).length:Nat):Int) :: cs)/\Touch [g] w w':=by
 by_cases h0:m=0
 ·subst h0;exact Zkf b s A c k g n0 r cs w hB hR hn0 hk hs hc hd
 ·have e:Zb m b=⟨1,false,⟨true,Yf,(m:Int)⟩,b⟩:=by unfold Zb Xd Kv;rw[if_neg h0]
  rw[e] at hd ⊢;exact Zkg m b (by omega) hm s A c k g n0 r cs w hB hR hn0 hk hs hc hd
theorem Zki(m:Nat)(b:UInt8):0<(opS (Zb m b)).length:=by
 rw[Z48];simp
theorem Za8:∀ (a b:Str) (k:Nat),Jd k (a++b)=Jd k a++Jd (k+a.length) b
 | [],b,k=>by simp[Jd]
 | x :: a,b,k=>by
  simp only[n1,Jd,Za8 a b (k+1),lL];rw[show k+1+a.length=k+(a.length+1) by omega]
theorem Zkj{t:Str}{m:Nat}(h:m<t.length):∃ r,((chain t).flatMap opS).drop ((chain (t.take m)).flatMap opS).length=opS (Zb m t[m])++r:=by
 have e:chain t=chain (t.take (m+1))++Jd (0+(t.take (m+1)).length) (t.drop (m+1)):=by
  unfold chain;rw[<-Za8,n3]
 refine⟨(Jd (0+(t.take (m+1)).length) (t.drop (m+1))).flatMap opS,?_⟩;rw[e,List.flatMap_append,Z4c h,lQ,lI rfl]
theorem Zkk{w:World}{base n:Nat}{V:Value}{l:List POp}(h:w.ownsRow base 278 37 V n (Yg l))(hn:l.length=n):Zl w (base<=·) V l:=by
 rcases h with ⟨h1,⟨rfl,h3⟩ | ⟨g,cap,cur,rfl,h3,h4,h5,h6,h7,h8⟩⟩
 ·exact⟨none,0,by rw[hn,h3],by omega,fun hp=>by omega⟩
 ·have hB:Blk w g 278 cur.toList:=h4;refine⟨some ⟨g,0,none⟩,cap,by rw[hn],by omega,fun hp=>?_⟩;exact Rd.of_blk (ok:=(base<=·)) (xs:=Yg l) (r:=cur.toList.drop (n*37)) hB (by rw[<-h8,lW,n3]) h3 hp
structure ReadSt (W0 W:World) (g:Nat) (sl:Value) (a:Str) (k:Nat) (l:List POp) (m:Nat):Prop where
 touch:Touch [g] W0 W
 row:∃ V,Blk W g 384 [sl,.int .i64 (k:Int),Z0,.string ⟨a.toArray⟩,.string ⟨#[]⟩,V]/\W.ownsRow W0.heap.size 278 37 V m (Yg l)
theorem Zkl(a t:Str)(ha:Z6 a=true)(ht:t.length<=1000)(s:Str)(hse:s=Yk (Ym a t))(A:Option Addr)(c g n0:Nat)(w:World)(hB:Blk w g 384 [.slice A s.length c,.int .i64 0,Z0,.string ⟨#[]⟩,.string ⟨#[]⟩,Z0])(hR:Src n0 g w A s)(hn0:n0<=w.heap.size)(hs:s.length<=131072)(hc:s.length<=c) :
  Calls lA 269 #[.pointer (some ⟨g,0,none⟩)] w fun e w'=>e=.returned (.tuple #[])/\∃ V,Blk w' g 384 [.slice A s.length c,.int .i64 (s.length:Int),Z0,.string ⟨a.toArray⟩,.string ⟨#[]⟩,V]/\w'.ownsRow w.heap.size 278 37 V t.length (Yg (chain t))/\Touch [g] w w':=by
 have hal:=nmOk_len' ha;obtain⟨cr,hcr⟩:∃ cr,cr=(chain t).flatMap opS:=⟨_,rfl⟩;have hsd:s=Z3 0++(Zr a++(Zr []++(Z3 t.length++cr))):=by
  rw[hse,Z27,hcr];simp only[G8,lQ]
 have el:(Z3 0).length=1:=by rw[Xq (by decide)];rfl
 obtain⟨k2,hk2⟩:∃ k2,k2=1+(Zr a).length:=⟨_,rfl⟩;obtain⟨k3,hk3⟩:∃ k3,k3=k2+(Zr []).length:=⟨_,rfl⟩;obtain⟨k4,hk4⟩:∃ k4,k4=k3+(Z3 t.length).length:=⟨_,rfl⟩;have hlen:s.length=k4+cr.length:=by
  rw[hsd];simp only[lD,el];omega
 have d0:s.drop 0=Z3 0++(Zr a++(Zr []++(Z3 t.length++cr))):=hsd;have d1:s.drop 1=Zr a++(Zr []++(Z3 t.length++cr)):=by rw[hsd];exact lI el
 have d2:s.drop k2=Zr []++(Z3 t.length++cr):=by rw[hk2,<-lN,d1,lI rfl]
 have d3:s.drop k3=Z3 t.length++cr:=by rw[hk3,<-lN,d2,lI rfl]
 have d4:s.drop k4=cr:=by rw[hk4,<-lN,d3,lI rfl]
 have p9:(1000:Nat)<128 ^ 9:=by decide
 have hs':s.length<=1099511627776:=by omega
 have hnum:=iD (fun W (hB:Blk W g 384 [.slice A s.length c,.int .i64 ((0:Nat):Int),Z0,.string ⟨#[]⟩,.string ⟨#[]⟩,Z0]) hR=>Z06 s A c 0 0 g n0 _ 384 _ W hB hR (by omega) hs' (by decide) d0);rw[el] at hnum;have htx:=iD (fun W (hB:Blk W g 384 [.slice A s.length c,.int .i64 ((0+1:Nat):Int),Z0,.string ⟨#[]⟩,.string ⟨#[]⟩,Z0]) hR=>Za7 s A c (0+1) g n0 a _ 384 _ W hB hR (by omega) hs' hc (by omega) d1);rw[show 0+1+(Zr a).length=k2 by omega] at htx;have htn:=iD (fun W (hB:Blk W g 384 [.slice A s.length c,.int .i64 (k2:Int),Z0,.string ⟨a.toArray⟩,.string ⟨#[]⟩,Z0]) hR=>Za7 s A c k2 g n0 [] _ 384 _ W hB hR (by omega) hs' hc (by simp) d2);rw[<-hk3] at htn;have hnu2:=iD (fun W (hB:Blk W g 384 [.slice A s.length c,.int .i64 (k3:Int),Z0,.string ⟨a.toArray⟩,.string ⟨#[]⟩,Z0]) hR=>Z06 s A c k3 t.length g n0 _ 384 _ W hB hR (by omega) hs' (by omega) d3);rw[<-hk4] at hnu2;have hrf:=iD G0;have hmay:=iD (fun V ok W h=>Z8h a t V ok W h ha (by omega));have hgt:decide ((2000:Int)<(t.length:Int))=false:=by simp;omega
 have hg:=hB.lt;clear d0 d1 d2 d3 hk2 hk3 hk4 hse;replace hcr:=iD hcr;replace d4:=iD d4;replace hsd:=iD hsd;replace hB:=iD hB;replace hR:=iD hR;go_enter func269,ntmps269;go_wp2_with fail;refine (hnum.out w hB.out hR.out).mono ?_;rintro e w2 ⟨rfl,hB2,hT2⟩;have hR2:=hR.out.touch hT2 hn0;have hn2:=lB hn0 hT2.size;clear hB hR hnum;replace hB2:=iD hB2;replace hR2:=iD hR2;replace hT2:=iD hT2;go_wp2_with fail;refine (hrf.out _ _ _).mono ?_;rintro e w3 ⟨rfl,rfl⟩;go_wp2_with fail;refine wp_loop_rounds 1 ?_;rw[rounds_succ];go_wp2_with fail;refine (htx.out w3 hB2.out hR2.out).mono ?_;rintro e w4 ⟨rfl,hB4,hT4⟩;have hR4:=hR2.out.touch hT4 hn2;have hT04:Touch [g] w w4:=hT2.out.trans hT4 (fun i hi=>.inl hi);have hn4:=lB hn2 hT4.size;clear hB2 hR2 hT2 hT4 htx;have f4:=hB4.frozen 3;have k4:w4.cell? ⟨g,3,none⟩=some (.string ⟨#[]⟩):=hB4.cell 3;replace hB4:=iD hB4;replace hR4:=iD hR4;replace hT04:=iD hT04;go_upto_region 7 with fail;generalize hW5:lH w4 _ _=w5;have hB5:Blk w5 g 384 [.slice A s.length c,.int .i64 (k2:Int),Z0,.string ⟨a.toArray⟩,.string ⟨#[]⟩,Z0]:=by rw[<-hW5];exact hB4.out.set_ 3 _
 have hT5:Touch [g] w4 w5:=by rw[<-hW5];exact Touch.setCell _ (by simp)
 have hR5:=hR4.out.touch hT5 hn4;have hT05:Touch [g] w w5:=hT04.out.trans hT5 (fun i hi=>.inl hi);have hn5:=lB hn4 hT5.size;clear hW5 hB4 hR4 hT04 hT5 f4 k4;replace hR5:=iD hR5;replace hT05:=iD hT05;replace hB5:=iD hB5;go_wp2_with fail;refine (htn.out w5 hB5.out hR5.out).mono ?_;rintro e w6 ⟨rfl,hB6,hT6⟩;have hR6:=hR5.out.touch hT6 hn5;have hT06:Touch [g] w w6:=hT05.out.trans hT6 (fun i hi=>.inl hi);have hn6:=lB hn5 hT6.size;clear hB5 hR5 hT05 hT6 htn;have f6:=hB6.frozen 4;have k6:w6.cell? ⟨g,4,none⟩=some (.string ⟨#[]⟩):=hB6.cell 4;replace hB6:=iD hB6;replace hR6:=iD hR6;replace hT06:=iD hT06;go_upto_region 8 with fail;generalize hW7:lH w6 _ _=w7;have hB7:Blk w7 g 384 [.slice A s.length c,.int .i64 (k3:Int),Z0,.string ⟨a.toArray⟩,.string ⟨#[]⟩,Z0]:=by rw[<-hW7];exact hB6.out.set_ 4 _
 have hT7:Touch [g] w6 w7:=by rw[<-hW7];exact Touch.setCell _ (by simp)
 have hR7:=hR6.out.touch hT7 hn6;have hT07:Touch [g] w w7:=hT06.out.trans hT7 (fun i hi=>.inl hi);have hn7:=lB hn6 hT7.size;clear hW7 hB6 hR6 hT06 hT7 f6 k6;replace hR7:=iD hR7;replace hT07:=iD hT07;replace hB7:=iD hB7;go_wp2_with fail;refine (hnu2.out w7 hB7.out hR7.out).mono ?_;rintro e w8 ⟨rfl,hB8,hT8⟩;have hR8:=hR7.out.touch hT8 hn7;have hT08:Touch [g] w w8:=hT07.out.trans hT8 (fun i hi=>.inl hi);have hn8:=lB hn7 hT8.size;clear hB7 hR7 hT07 hT8 hnu2;replace hB8:=iD hB8;replace hR8:=iD hR8;replace hT08:=iD hT08;go_wp2_with fail;refine (hrf.out _ _ _).mono ?_;rintro e w9 ⟨rfl,rfl⟩;go_wp2_with fail;go_loopw [60] (fun i wr=>∃ m:Nat,m<=t.length/\i=.int .i64 m/\ReadSt w9 wr g (.slice A s.length c) a (k4+((chain (t.take m)).flatMap opS).length) (chain (t.take m)) m) (fun i _=>t.length - (intOf i).toNat)
 case atStart=>exact⟨0,Nat.zero_le _,rfl,⟨Touch.refl _ _,Z0,hB8.out,rfl,.inl ⟨rfl,rfl⟩⟩⟩
 case round =>
  obtain⟨m,hm,rfl,hst⟩:=hrel;obtain⟨V,hV,hrow⟩:=hst.row;obtain⟨FA,fc,rfl,_,_⟩:=Za hrow;by_cases hlt:m<t.length
  ·have i1:(0:Int)<=(m:Int):=by omega
   have i2:(m:Int)<(t.length:Int):=by omega
   obtain⟨rs,hrs⟩:=Zkj hlt;obtain⟨pl,hpl⟩:∃ pl,pl=((chain (t.take m)).flatMap opS).length:=⟨_,rfl⟩;rw[<-hpl] at hrs hV;have hpl':((chain (t.take (m+1))).flatMap opS).length=pl+(opS (Zb m t[m])).length:=by rw[Z4c hlt,lD,hpl]
   have hds:s.drop (k4+pl)=opS (Zb m t[m])++rs:=by rw[<-lN,d4.out,hcr.out,hrs]
   have hkp:k4+pl<=s.length:=by
    have:=congrArg lT hds;have h1:=Zki m t[m];rw[lU,lD] at this;omega
   have hnr:=lB hn8 hst.touch.size;have hRr:Src n0 g wr.drew A s:=(hR8.out.touch hst.touch hn8).drew;have hop:=Zkh m t[m] (by omega) s A c (k4+pl) g n0 rs _ wr.drew hV.drew hRr hnr hkp hs' hc hds;obtain⟨x,hx⟩:∃ x,x=Zb m t[m]:=⟨_,rfl⟩;have hxl:x.at_.com.length=32:=by rw[hx];exact Qx m
   rw[<-hx] at hop hpl';have cV:wr.cell? ⟨g,5,none⟩=some (.slice FA m fc):=hV.cell 5;clear hrs hds hkp hRr;replace hop:=iD hop;replace hst:=iD hst;replace hV:=iD hV;replace hrow:=iD hrow;replace hpl:=iD hpl;replace hx:=iD hx;go_upto_region 12 with fail;obtain⟨PS,hPS⟩:∃ PS:World->Prop,∀ x,PS x ↔ x.cell? ⟨g,5,none⟩=some (.slice FA m fc):=⟨_,fun _=>nS⟩;have s0:∀ s:Cls PS,s.1.cell? ⟨g,5,none⟩=some (.slice FA m fc):=fun s=>(hPS _).1 s.2;have s4:PS wr.drew:=(hPS _).2 cV;haveI : Nonempty (Cls PS):=⟨⟨_,s4⟩⟩;replace hPS:=iD hPS;clear cV;refine Yh (fun w'=>∃ s:Cls PS,w'=s.1) [([0,1,2,3,4,5,6],7),([],8),([],9)] [] 10 [11,12,13] (by kernel_rfl) (by kernel_rfl) (fun _ d _ _ _ h=>by cases d <;> exact h) ⟨⟨_,s4⟩,rfl⟩ ?_;simp only[Y4,Z7,lO,lP,Zo,Zn];repeat (first | go_big_quiet_step (fail))
   refine lC ?_;intro K hK;go_simp;refine hop.out.mono ?_;rintro e w10 ⟨rfl,hB10,hT10⟩;refine hK _ _ ⟨⟨_,(hPS.out _).2 (hB10.cell 5)⟩,rfl⟩ ?_;clear hK hop;refine lC ?_;intro K hK;refine J0 _ _ rfl _ (Jy 152 (.tmp 69) rfl _ _ rfl (Z81 x hxl _)) ?_;have hB11:=hB10.alloc (.cells (Z9 x).toArray 278);refine hK _ _ ⟨⟨_,(hPS.out _).2 (hB11.cell 5)⟩,rfl⟩ ?_;clear hK;refine lC ?_;intro K hK;have hrow10:w10.ownsRow w9.heap.size 278 37 (.slice FA m fc) m (Yg (chain (t.take m))):=Zj hrow.out.drew hT10 (fun b hb hm=>by
    have:=Ys hrow.out hV.out (by decide);obtain rfl:b=g:=by simpa using hm
    exact this hb.symm)
   refine Vs _ rfl (.tmp 67) (.tmp 70) 152 rfl w9.heap.size 278 _ 37 72 underlying152 Z46 (.slice FA m fc) m (Yg (chain (t.take m))) rfl (hrow10.alloc _) (fun _=>True) (some ⟨w10.heap.size,0,none⟩) 1 1 (Z9 x) rfl (by rw[Jo (by rw[hx.out];exact Vq _ (by omega))]) (Rd.of_blk (cs:=Z9 x) (r:=[]) (Blk.new_at rfl) (by simp) trivial) (Kw x) (by unfold maxLen;omega) (by omega) (by have h1:=hst.out.touch.size;have h2:=hT10.size;simp at h2 ⊢;omega) ?_;intro V' w12 hrow12 hg12 hv12;obtain⟨GA,gc,rfl,_,_⟩:=Za hrow12;have hB12:=hB11.grown hg12 (Ys hrow10 hB10 (by decide));refine hK _ _ ⟨⟨_,(hPS.out _).2 (hB12.cell 5)⟩,rfl⟩ ?_;clear hK;refine lC ?_;have f5:=hB12.frozen 5;have k5:w12.cell? ⟨g,5,none⟩=some (.slice FA m fc):=hB12.cell 5;have hT12:Touch [g] w9 w12:=by
    have h1:Touch [g] w9 w10:=hst.out.touch.trans (((Touch.drewN (L:=[g]) (w:=wr) 1)).trans hT10 (fun i hi=>.inl hi)) (fun i hi=>.inl hi);have h2:Below w9.heap.size w10 w12:=((lF w9.heap.size w10).alloc h1.size _).trans (Yo (hrow10.alloc _) hg12 (by have:=h1.size;simp;omega));exact h1.under h2
   have hB13:Blk (w12.setCell ⟨g,5,none⟩ (.slice GA (m+1) gc)) g 384 _:=hB12.set_ 5 (.slice GA (m+1) gc);have hT13:Touch [g] w12 (w12.setCell ⟨g,5,none⟩ (.slice GA (m+1) gc)):=Touch.setCell _ (by simp);have hrow13:=Zj hrow12 hT13 (fun b hb hm=>by
    have:=Ys hrow12 hB12 (by decide);obtain rfl:b=g:=by simpa using hm
    exact this hb.symm)
   have hT03:=hT12.trans hT13 (fun i hi=>.inl hi);clear hB12 hrow12 hg12 hv12 hB10 hB11 hT10 hrow10 hT12 hT13;replace hB13:=iD hB13;replace hrow13:=iD hrow13;replace hT03:=iD hT03;go_frame;go_wp2_with fail;refine⟨⟨m+1,by omega,by go_num,hT03.out,.slice GA (m+1) gc,?_,?_⟩,?_⟩
   ·rw[hpl',<-n4];exact hB13.out
   ·rw[Z82 hlt,<-hx.out];exact hrow13.out
   ·simp[intOf];omega
  ·have hmt:m=t.length:=by omega
   subst hmt;rw[List.take_length] at hrow hV;have hke:k4+((chain t).flatMap opS).length=s.length:=by rw[hlen,hcr.out]
   rw[hke] at hV;have hlt':decide ((t.length:Int)<(t.length:Int))=false:=by simp
   go_upto_region 14 with fail;have c1:wr.cell? ⟨g,1,none⟩=some (.int .i64 (s.length:Int)):=hV.cell 1;have c0:wr.cell? ⟨g,0,none⟩=some (.slice A s.length c):=hV.cell 0;replace hst:=iD hst;replace hV:=iD hV;replace hrow:=iD hrow;refine Y7 15 (by kernel_rfl) (by kernel_rfl) ?_;simp only[lZ,l0,l3,lW];repeat (first | go_big_quiet_step (fail))
   refine lC ?_;rintro _ ⟨nq,rfl⟩;clear c0 c1;go_wp2_with fail;refine (hrf.out _ _ _).mono ?_;rintro e w13 ⟨rfl,hw13⟩;have hV13:=hV.out.drewN nq;rw[<-hw13] at hV13;have ht13:Touch [g] wr w13:=by rw[hw13];exact Touch.drewN nq
   have hrow13:w13.ownsRow w9.heap.size 278 37 (.slice FA t.length fc) t.length (Yg (chain t)):=by rw[hw13];exact hrow.out
   have hT13:=(hT08.out.trans hst.out.touch (fun i hi=>.inl hi)).trans ht13 (fun i hi=>.inl hi);have hs9:=hT08.out.size;clear hw13 ht13 hV hrow hst hT08 hB8;have hmy:=hmay.out _ _ w13 (Zkk hrow13 (Jq t 0));obtain⟨cc,hcc⟩:∃ cc,cc=Z5 a (.slice FA t.length fc):=⟨_,rfl⟩;rw[<-hcc] at hmy;have hinf:(lA.info? 154).map (·.size)=some cc.length:=by rw[hcc];kernel_rfl
   have hdr:[n5 A s.length c,.int .i64 (s.length:Int),Z0,.string ⟨a.toArray⟩,.string ⟨#[]⟩,.slice FA t.length fc].drop 2=cc++[]:=by rw[hcc];rfl
   replace hcc:=iD hcc;replace hinf:=iD hinf;replace hdr:=iD hdr;replace hV13:=iD hV13;replace hrow13:=iD hrow13;replace hT13:=iD hT13;go_wp2_with (first
    | (refine Xj rfl 154 (.tmp 94) rfl g 2 rfl 384 _ cc [] hV13.out hdr.out _ underlying154 rfl hinf.out ?_;go_frame)
    | fail)
   refine hmy.mono ?_;rintro e w14 ⟨rfl,hb14⟩;have hV14:=hV13.out.below hb14 hV13.out.lt;have hT14:Touch [g] w w14:=hT13.out.under (hb14.mono hT13.out.size);have hrow14:=Zj hrow13.out (Touch.ofBelow (L:=[]) hb14) (fun b hb hm=>by cases hm);clear hV13 hT13 hrow13 hb14 hmy;replace hV14:=iD hV14;replace hrow14:=iD hrow14;replace hT14:=iD hT14;go_wp2_with fail;refine (hrf.out _ _ _).mono ?_;rintro e w15 ⟨rfl,rfl⟩;go_wp2_with fail;go_returns;exact⟨rfl,_,hV14.out,J1 hs9 hrow14.out,hT14.out⟩
end
section
set_option maxRecDepth 100000
set_option maxHeartbeats 8000000
open Go.Lib renaming hid → iD
open Go.Proofs.Tryz
open Go.RowKit
theorem Z2r(e:Int)(w:World):Calls lA 207 #[.bool false,.int .i64 e] w fun r w'=>r=.returned (.tuple #[])/\w'=w:=by
 go_enter func207,ntmps207;go_wp2_with fail;go_returns;exact⟨rfl,rfl⟩
theorem Zkm(s:Str)(A:Option Addr)(c k n g:Nat)(r:Str)(t:TypeId)(cs:List Value)(w:World)(hB:Blk w g t (.slice A s.length c :: .int .i64 (k:Int) :: cs))(hR:Rd w (· ≠ g) A (s.map B))(hk:k<=s.length)(hs:s.length<=1099511627776)
  (hn:Yw (s.drop k)=some (n,r)) :
  Calls lA 208 #[.pointer (some ⟨g,0,none⟩)] w fun e w'=>e=.returned (.int .i64 (n:Int))/\∃ q,w'=(w.drewN q).setCell ⟨g,1,none⟩ (.int .i64 ((s.length - r.length:Nat):Int)):=by
 have hg:Hid (∀ x:Cls (Yz w),Calls lA 144 #[.slice A s.length c,.int .i64 (k:Int)] x.1 fun e w'=>Q7 s k e/\w'=x.1):=iD (by rintro ⟨_,q,rfl⟩;exact Z1l s A c k (w.drewN q) ((hR.weak (fun _ _ _=>trivial)).drewN q) hk hs);have c0:∀ x:Cls (Yz w),x.1.cell? ⟨g,0,none⟩=some (.slice A s.length c):=by rintro ⟨_,q,rfl⟩;exact (hB.drewN q).cell 0
 have c1:∀ x:Cls (Yz w),x.1.cell? ⟨g,1,none⟩=some (.int .i64 (k:Int)):=by rintro ⟨_,q,rfl⟩;exact (hB.drewN q).cell 1
 have hrf:=iD Z2r;replace hn:=iD hn;replace hB:=iD hB;clear hR;haveI : Nonempty (Cls (Yz w)):=⟨⟨w,0,rfl⟩⟩;go_enter func208,ntmps208;go_wp2_with fail;refine Yh (fun w'=>∃ x:Cls (Yz w),w'=x.1) [([0,1,2,3,4,5,6,7],8)] [9,10,11,12,13,14] 15 [] (by kernel_rfl) (by kernel_rfl) (fun _ d _ _ _ h=>by cases d <;> exact h) ⟨⟨_,1,rfl⟩,rfl⟩ ?_;simp only[Y4,Z7,lO,lP,Zo,Zn];repeat (first | go_big_quiet_step (fail))
 refine lC ?_;intro K hK;go_simp;refine (hg.out ⟨_,1,rfl⟩).mono ?_;rintro e w1 ⟨⟨n',r',hn',rfl⟩ | ⟨hn',_⟩,rfl⟩
 ·rw[hn.out] at hn'
  injection hn' with hn'
  injection hn' with e1 e2
  subst e1;subst e2;refine hK _ _ ⟨⟨_,1,rfl⟩,rfl⟩ ?_;clear hK hg c0 c1;repeat (first | go_big_quiet_step (fail))
  refine lC ?_;have d1:=(hB.out.drewN 1).cell 1;have f1:=(hB.out.drewN 1).frozen 1;go_wp2_with fail;refine (hrf.out _ _).mono ?_;rintro e w2 ⟨rfl,rfl⟩;go_wp2_with fail;go_returns;exact⟨rfl,1,rfl⟩
 ·rw[hn.out] at hn';cases hn'
theorem Za9(s:Str)(A:Option Addr)(c k n g n0:Nat)(r:Str)(t:TypeId)(cs:List Value)(w:World)(hB:Blk w g t (.slice A s.length c :: .int .i64 (k:Int) :: cs))(hR:Src n0 g w A s)(hk:k<=s.length)(hs:s.length<=1099511627776)(hn:n<128 ^ 9)
  (hd:s.drop k=Z3 n++r) :
  Calls lA 208 #[.pointer (some ⟨g,0,none⟩)] w fun e w'=>e=.returned (.int .i64 (n:Int))/\Blk w' g t (.slice A s.length c :: .int .i64 ((k+(Z3 n).length:Nat):Int) :: cs)/\Touch [g] w w':=by
 have hl:s.length - r.length=k+(Z3 n).length:=by
  have:=congrArg lT hd;rw[lU,lD] at this;omega
 refine (Zkm s A c k n g r t cs w hB (hR.weak (fun _ _ h=>h.1)) hk hs (by rw[hd];exact Ou hn r)).mono ?_;rintro e w' ⟨he,q,rfl⟩;rw[hl];exact⟨he,(hB.drewN q).set_ 1 _,(Touch.drewN q).trans (Touch.setCell _ (by simp)) (fun i hi=>.inl hi)⟩
theorem Zkn(s:Str)(b o c k g:Nat)(t:TypeId)(cs:List Value)(w:World)(hB:Blk w g t (.slice (some ⟨b,o,none⟩) s.length c :: .int .i64 (k:Int) :: cs))(hbl:b<w.heap.size)(hbg:b ≠ g)(hcell:∀ j v,(s.map B)[j]?=some v->w.cell? ⟨b,o+j,none⟩=some v)(hk:k+32<=s.length)(hs:s.length<=1099511627776)(hc:s.length<=c) :
    Calls lA 266 #[.pointer (some ⟨g,0,none⟩)] w fun e w'=>e=.returned (.agg (((s.drop k).take 32).map B).toArray)/\Blk w' g t (.slice (some ⟨b,o,none⟩) s.length c :: .int .i64 ((k+32:Nat):Int) :: cs)/\Touch [g] w w':=by
  obtain⟨ds,hds⟩:∃ ds,ds=(s.drop k).take 32:=⟨_,rfl⟩;have hdl:ds.length=32:=by rw[hds,List.length_take,lU];omega
  have hcut:cutA (some ⟨b,o,none⟩) c k 1=some ⟨b,o+k,none⟩:=by
    unfold cutA;rw[if_neg (by omega),nM,Jk,nL]
  have hcd:∀ j v,(ds.map B)[j]?=some v->w.cell? ⟨b,o+k+j,none⟩=some v:=fun j v hv=>by
    have hj:j<32:=by have:=(l5.1 hv).1;simpa[hdl] using this
    rw[n4];refine hcell (k+j) v ?_;rw[hds] at hv;rw[<-hv,n6,n6,nU hj,List.getElem?_drop]
  rw[<-hds];have hg:g<w.heap.size:=hB.lt;have hrf:=iD Z2r;have hgt:decide ((s.length:Int) - (k:Int)<32)=false:=by simp;omega
  clear hcell hds;go_enter func266,ntmps266;go_wp2_with fail;generalize hW1:lG w _=w1;have hb1:Below w.heap.size w w1:=by rw[<-hW1];exact bL
  have hZ1:Blk w1 w.heap.size 59 Z2:=by rw[<-hW1];exact Blk.new_at (cs:=Z2) rfl
  have hB1:=hB.below hb1 hg;have hcd1:∀ j v,(ds.map B)[j]?=some v->w1.cell? ⟨b,o+k+j,none⟩=some v:=fun j v hv=>by
    rw[nF (hb1.block b hbl)];exact hcd j v hv
  have c0:w1.cell? ⟨g,0,none⟩=some (.slice (some ⟨b,o,none⟩) s.length c):=hB1.cell 0;have c1:w1.cell? ⟨g,1,none⟩=some (.int .i64 (k:Int)):=hB1.cell 1;clear hW1 hB hcd;replace hB1:=iD hB1;replace hb1:=iD hb1;replace hZ1:=iD hZ1;replace hcd1:=iD hcd1;refine Y7 11 (by kernel_rfl) (by kernel_rfl) ?_;simp only[lZ,l0,l3,lW];repeat (first | go_big_quiet_step (fail))
  refine lC ?_;rintro _ ⟨nq,rfl⟩;clear c0 c1;go_wp2_with fail;refine (hrf.out _ _).mono ?_;rintro e w2 ⟨rfl,rfl⟩;have d1:=(hB1.out.drewN nq).cell 1;have f1:=(hB1.out.drewN nq).frozen 1;have hB2:=iD (((hB1.out.drewN nq).set_ 1 (.int .i64 ((k+32:Nat):Int))));go_wp2_with fail;rw[show ((k:Int)+32)=((k+32:Nat):Int) by omega];have hT:Touch [g] w1 ((w1.drewN nq).setCell ⟨g,1,none⟩ (.int .i64 ((k+32:Nat):Int))):=(Touch.drewN nq).trans (Touch.setCell _ (by simp)) (fun i hi=>.inl hi);have hZ3:=hZ1.out.touch hT (by simp;omega);generalize hW:lH (w1.drewN nq) ⟨g,1,none⟩ (.int .i64 ((k+32:Nat):Int))=w3 at hB2 hT hZ3;have e0:w3.cell? ⟨g,0,none⟩=some (.slice (some ⟨b,o,none⟩) s.length c):=hB2.out.cell 0;have e1:w3.cell? ⟨g,1,none⟩=some (.int .i64 ((k+32:Nat):Int)):=hB2.out.cell 1;have hbl1:b<w1.heap.size:=nK hbl hb1.out.size;have hcd3:∀ j v,(ds.map B)[j]?=some v->w3.cell? ⟨b,o+k+j,none⟩=some v:=fun j v hv=>by
    rw[nF (hT.block b hbl1 (by simpa using hbg))];exact hcd1.out j v hv
  have hT3:Touch [g] w w3:=(Touch.ofBelow hb1.out).trans hT (fun i hi=>.inl hi);clear hW hT hcd1 hb1 hZ1 hB1;clear d1 f1 hgt;replace hZ3:=iD hZ3;replace hcd3:=iD hcd3;replace hT3:=iD hT3;refine Y7 13 (by kernel_rfl) (by kernel_rfl) ?_;simp only[lZ,l0,l3,lW];repeat (first | go_big_quiet_step (fail))
  refine lC ?_;rintro _ ⟨nr,rfl⟩;clear e0 e1;have hB4:=hB2.out.drewN nr;have hZ4:=hZ3.out.drewN nr;have hcd4:∀ j v,(ds.map B)[j]?=some v->(w3.drewN nr).cell? ⟨b,o+k+j,none⟩=some v:=fun j v hv=>hcd3.out j v hv;have hT4:=hT3.out.trans (Touch.drewN (L:=[g]) nr) (fun i hi=>.inl hi);clear hB2 hZ3 hcd3 hT3;generalize w3.drewN nr=w4 at hB4 hZ4 hcd4 hT4 ⊢;replace hB4:=iD hB4;replace hZ4:=iD hZ4;replace hcd4:=iD hcd4;replace hT4:=iD hT4;have hkn:((k+32:Nat):Int) - 32=(k:Int):=by omega
  go_wp2_with (first
    | (refine Gq rfl 57 (.tmp 25) (.tmp 30) (.tmp 34) rfl 5 1 underlying57 (by kernel_rfl) (some ⟨b,o,none⟩) s.length c k (k+32) rfl rfl rfl (by omega) (by omega) ?_
       rw[show k+32 - k=32 by omega,hcut];go_frame)
    | (refine Y2 _ rfl rfl _ (Ku _ rfl ⟨b,o+k,none⟩ (c - k) rfl) ?_;go_frame)
    | (refine wpList_load_mid rfl 59 (.tmp 36) rfl b (o+k) rfl (ds.map B) _ hcd4.out underlying59 rfl (Zg hdl) ?_;go_frame)
    | (refine Zd rfl 59 (.tmp 2) (.tmp 37) rfl w.heap.size (ds.map B) rfl rfl 59 Z2 hZ4.out (by simp[hdl,Z2]) (Zg hdl) (Y5 _) ?_;go_frame)
    | fail)
  exact Qe rfl w.heap.size 59 (ds.map B) _ rfl (hZ4.out.setRow_same _) underlying59 rfl (Zg hdl) rfl ⟨rfl,hB4.out.setRow_far (by omega) _,hT4.out.trans (Touch.setRow (L:=[w.heap.size]) (by simp) _) (fun i hi=>.inr (by simp at hi;omega))⟩
end
section
set_option maxRecDepth 100000
set_option maxHeartbeats 8000000
open Go.Lib renaming hid → iD
open Go.Proofs.Tryz
open Go.RowKit
theorem Zko{fn:Func}{p q:Tmp}{ty ty2:TypeId}(h:fn.results=#[.cell p ty,.cell q ty2])(tmps:Array Value)(P:Program)(w:World)(g1 g2:Nat)(t2:TypeId)(cs:List Value)(v:Value)(q2:IntKind)
  (l1:(loadVar ty ⟨g1,0,none⟩).run P w=.ok (.agg cs.toArray) w) (hp:tmps.getD p undef=.pointer (some ⟨g1,0,none⟩)) (hq:tmps.getD q undef=.pointer (some ⟨g2,0,none⟩)) (h2:Blk w g2 t2 [v])     (hu2:P.underlying ty2=some (.int q2)) :
  (results fn tmps).run P w=.ok (.tuple #[.agg cs.toArray,v]) w:=by
 have e1:(asAddr (.pointer (some ⟨g1,0,none⟩))).run P w=.ok (⟨g1,0,none⟩:Addr) w:=by simp[asAddr]
 have e2:(asAddr (.pointer (some ⟨g2,0,none⟩))).run P w=.ok (⟨g2,0,none⟩:Addr) w:=by simp[asAddr]
 have c2:w.cell? ⟨g2,0,none⟩=some v:=h2.cell 0;have l2:(loadVar ty2 ⟨g2,0,none⟩).run P w=.ok v w:=by
  simp[loadVar,isAgg,nC hu2,go_sem,c2]
 have hp':tmps[p]?.getD undef=.pointer (some ⟨g1,0,none⟩):=by simpa using hp
 have hq':tmps[q]?.getD undef=.pointer (some ⟨g2,0,none⟩):=by simpa using hq
 simp[results,h,hp',hq',e1,e2,l1,l2]
theorem Zkp(p q:Addr)(w:World) :
  CallsD lA 268 #[.pointer (some p),.pointer (some q)] .returning w fun e u' w'=>e=.returned (.tuple #[])/\u'=.returning/\w'=w:=by
 refine callsD_of_wpS func268 rfl fun c₀ cs hu=>?_;apply wpS_seq;apply wpS_region;simp[wpOpsS,go_sem,recoverD,hu,ntmps268,Exit.thenS];apply wpS_seq;apply wpS_region;simp[wpOpsS,go_sem,Exit.thenS];refine wpS_cond (t:=false) (by simp[Act.eval,Array.replicate]) ?_;simp only[Bool.false_eq_true,if_false];refine wpS_of_wp (wp_skip ?_);cases c₀
 simp_all [bodyPostS,results,Tryz.results268]
theorem Zkq(a t:Str)(ha:Z6 a=true)(ht:t.length<=1000)(s:Str)(hse:s=Yk (Ym a t))(A:Option Addr)(c:Nat)(w:World)(hR:Rd w (· < w.heap.size) A (s.map B))(hs:s.length<=131072)(hc:s.length<=c) :
  Calls lA 210 #[.slice A s.length c] w fun e w'=>∃ V,e=.returned (.tuple #[.agg (Z5 a V).toArray,.int .i64 0])/\w'.ownsRow w.heap.size 278 37 V t.length (Yg (chain t))/\Below w.heap.size w w':=by
 have hmf:∀ (fn:Fn) (first cap:Array Value) (w:World),(Instr.makeFunc fn first cap).run lA w=.ok (.func fn first cap) w:=fun _ _ _ _=>rfl;have hgt:decide ((131072:Int)<(s.length:Int))=false:=by simp;omega
 have hcm:=iD (fun g W hB hR hn=>Zkl a t ha ht s hse A c g w.heap.size W hB hR hn hs hc);replace hR:=iD hR;replace hse:=iD hse;go_enter_defers func210,ntmps210;go_wp2_with fail;generalize hW1:lG (lG (lG w _) _) _=w1;have hC1:Blk w1 w.heap.size 154 [Z0,.string ⟨#[]⟩,.string ⟨#[]⟩,Z0]:=by rw[<-hW1];exact ((Blk.new_at (cs:=[Z0,.string ⟨#[]⟩,.string ⟨#[]⟩,Z0]) rfl).alloc _).alloc _
 have hE1:Blk w1 (w.heap.size+1) 23 [.int .i64 0]:=by rw[<-hW1];exact (Blk.new_at (cs:=[.int .i64 0]) (by simp)).alloc _
 have hB1:Blk w1 (w.heap.size+1+1) 384 [.slice A s.length c,.int .i64 0,Z0,.string ⟨#[]⟩,.string ⟨#[]⟩,Z0]:=by rw[<-hW1];exact Blk.new_at (cs:=[.slice A s.length c,.int .i64 0,Z0,.string ⟨#[]⟩,.string ⟨#[]⟩,Z0]) (by simp)
 have hb1:Below w.heap.size w w1:=by rw[<-hW1];exact (bL.alloc (by simp) _).alloc (by simp;omega) _
 have hR1:Src w.heap.size (w.heap.size+1+1) w1 A s:=hR.out.stay (fun b hb hlt=>hb1.block b hlt) (fun b hb _=>⟨by omega,hb⟩);clear hW1;refine (hcm.out _ w1 hB1 hR1 hb1.size).mono ?_;rintro e w2 ⟨rfl,V,hB2,hrow2,hT2⟩;have hC2:=hC1.touch hT2 (by simp;omega);have hE2:=hE1.touch hT2 (by simp);have hb2:Below w.heap.size w w2:=hb1.trans (hT2.below hb1.size (fun i hi=>by simp at hi;omega));have hrow2':=J1 hb1.size hrow2;clear hB1 hR1 hb1 hC1 hE1 hT2 hcm hrow2;obtain⟨cc,hcc⟩:∃ cc,cc=Z5 a V:=⟨_,rfl⟩;have hinf:(lA.info? 154).map (·.size)=some cc.length:=by rw[hcc];kernel_rfl
 have hccl:cc.length=4:=by rw[hcc];rfl
 have hcco:∀ v ∈ cc,v.oneCell'=true:=by
  obtain⟨FA,fc,rfl,_,_⟩:=Za hrow2';rw[hcc];intro v hv;simp only[Z5,lR,lS,or_false] at hv;rcases hv with rfl | rfl | rfl | rfl <;> rfl
 have hdr:[n5 A s.length c,.int .i64 (s.length:Int),Z0,.string ⟨a.toArray⟩,.string ⟨#[]⟩,V].drop 2=cc++[]:=by rw[hcc];rfl
 have hE3:=hE2.setRow_far (show w.heap.size+1 ≠ w.heap.size by omega) cc.toArray;have f2:=hE3.frozen 0;have k2:(w2.setRow w.heap.size cc.toArray).cell? ⟨w.heap.size+1,0,none⟩=some (.int .i64 0):=hE3.cell 0;replace hcc:=iD hcc;replace hinf:=iD hinf;replace hdr:=iD hdr;replace hcco:=iD hcco;replace hB2:=iD hB2;replace hC2:=iD hC2;replace hE2:=iD hE2;replace hE3:=iD hE3;replace hb2:=iD hb2;replace hrow2':=iD hrow2';go_wp2_with (first
  | (refine Xj rfl 154 (.tmp 14) rfl (w.heap.size+1+1) 2 rfl 384 _ cc [] hB2.out hdr.out _ underlying154 rfl hinf.out ?_;go_frame)
  | (refine Zd rfl 154 (.tmp 2) (.tmp 15) rfl w.heap.size cc rfl rfl 154 _ hC2.out (by rw[hccl];rfl) hinf.out hcco.out ?_;go_frame)
  | fail)
 have hC4:Blk ((w2.setRow w.heap.size cc.toArray).setCell ⟨w.heap.size+1,0,none⟩ (.int .i64 0)) w.heap.size 154 cc:=(hC2.out.setRow_same cc).far (by simp) _;have hE4:=hE3.out.set_ 0 (.int .i64 0);have hT4:Touch [w.heap.size,w.heap.size+1] w2 ((w2.setRow w.heap.size cc.toArray).setCell ⟨w.heap.size+1,0,none⟩ (.int .i64 0)):=(Touch.setRow (by simp) _).trans (Touch.setCell _ (by simp)) (fun i hi=>.inl hi);generalize hW4:lH _ _ _=w4 at hC4 hE4 hT4 ⊢;refine leaves_cons (f:=268) (args:=#[.pointer (some ⟨w.heap.size,0,none⟩),.pointer (some ⟨w.heap.size+1,0,none⟩)]) (by simp) (by simp[go_sem]) ?_;refine (Zkp _ _ w4).mono ?_;rintro e u' w'' ⟨rfl,rfl,rfl⟩;refine⟨_,Zko rfl _ _ _ w.heap.size (w.heap.size+1) 23 cc (.int .i64 0) _ (run_loadVar_row _ w.heap.size 154 154 cc.toArray (0,0) _ hC4 underlying154 rfl (by simpa using hinf.out)) rfl rfl hE4 underlying23,V,by rw[hcc.out],?_,?_⟩
 ·refine Zj hrow2'.out hT4 (fun b hb hm=>?_);have h1:=Ys hrow2'.out hC2.out (by decide);have h2:=Ys hrow2'.out (show Blk w2 (w.heap.size+1) 23 [.int .i64 0] from hE2.out) (by decide);simp only[lR,lS,or_false] at hm;rcases hm with rfl | rfl
  ·exact h1 hb.symm
  ·exact h2 hb.symm
 ·exact hb2.out.trans (hT4.below hb2.out.size (fun i hi=>by simp at hi;omega))
end
section
set_option maxRecDepth 100000
set_option maxHeartbeats 8000000
open Go.Lib renaming hid → iD
open Go.Proofs.Tryz
open Go.RowKit
theorem Js(w:World){ops:Array Oper}{o:Oper}{a:Act}{K:Act->World->Prop}{Q:Exit->Act->World->Prop}{E:Prop}(hgd:o.guard=none)(x:Operand)(ho:o.op=.convert 9 57 x)(s:Str)(hx:a.eval x=.string ⟨s.toArray⟩)
  (h:∀ w' c,Below w.heap.size w w'->w.heap.size<w'.heap.size->s.length<=c->Rd w' (w.heap.size = ·) (some ⟨w.heap.size,0,none⟩) (s.map B)->K (a.put o.dst (.slice (some ⟨w.heap.size,0,none⟩) s.length c)) w'):if lV o (yielded ops a.tmps)=true then lY lA o a w K Q else E:=by
 refine J0 w (nJ w 5 ⟨s.toArray⟩) hgd _ ?_ (h (nJ w 5 ⟨s.toArray⟩) (grownCap w s.length 0 5) (Z55 _ _ _) (by rw[Lib.bytesWorld_size];omega) (by have:=nO w s.length 0 5;omega) (Z56 _ _ _));have hl:(⟨s.toArray⟩:ByteArray).size=s.length:=Jw s;have:=nZ (P:=lA) w 9 57 5 ⟨s.toArray⟩ underlying9 underlying57 underlying5;rw[hl] at this;simp only[execOp,ho,hx,l9,this,nB,nA]
theorem Zkr(s:Str)(A:Option Addr)(c k g n0:Nat)(d r:Str)(t:TypeId)(cs:List Value)(w:World)(hB:Blk w g t (.slice A s.length c :: .int .i64 (k:Int) :: cs))(hR:Src n0 g w A s)(hs:s.length<=1099511627776)(hc:s.length<=c)(hdl:d.length=32)
  (hd:s.drop k=d++r) :
  Calls lA 266 #[.pointer (some ⟨g,0,none⟩)] w fun e w'=>e=.returned (.agg (d.map B).toArray)/\Blk w' g t (.slice A s.length c :: .int .i64 ((k+32:Nat):Int) :: cs)/\Touch [g] w w':=by
 have hl:k+32<=s.length:=by
  have:=congrArg lT hd;rw[lU,lD] at this;omega
 obtain⟨b,o,rfl,hb,hlt,hcell⟩:=hR.at (by rw[l8];omega);refine (Zkn s b o c k g t cs w hB hlt hb.1 (fun j v hv=>hcell j v hv) hl hs hc).mono ?_;rintro e w' ⟨he,h1,h2⟩;rw[hd,List.take_left' hdl] at he;exact⟨he,h1,h2⟩
theorem Zks(s:Str)(A:Option Addr)(c k g n0:Nat)(xs r:Str)(hx:xs.length<=131072)(w:World)(hB:Blk w g 305 [.slice A s.length c,.int .i64 (k:Int)])(hR:Src n0 g w A s)(hn0:n0<=w.heap.size)(hs:s.length<=1099511627776)(hc:s.length<=c)
  (hkx:∀ W,Touch [g] w W->Zm W) (hd:s.drop k=Y6 xs++(Z3 0++(Zr xs++r))) :
  Calls lA 209 #[.pointer (some ⟨g,0,none⟩),Z0,.string ⟨#[]⟩,.int .i64 0] w fun e w'=>e=.returned (.tuple #[.agg ((Y6 xs).map B).toArray,.string ⟨xs.toArray⟩,.int .i64 0])/\Blk w' g 305 [.slice A s.length c,.int .i64 ((s.length - r.length:Nat):Int)]/\Touch [g] w w':=by
 obtain⟨ds,hds⟩:∃ ds,ds=Y6 xs:=⟨_,rfl⟩;have hdl:ds.length=32:=by rw[hds];exact J2 xs
 have hl1:k+32+1+(Zr xs).length+r.length=s.length:=by
  have h1:(Z3 0).length=1:=by rw[Xq (by decide)];rfl
  have:=congrArg lT hd;simp only[lU,lD,h1,J2] at this;have h2:k<=s.length:=by
   apply Classical.byContradiction;intro h;rw[List.drop_eq_nil_of_le (by omega)] at hd;have:=congrArg lT hd;simp only[lD,J2,lM] at this;omega
  omega
 have hd1:s.drop (k+32)=Z3 0++(Zr xs++r):=by rw[<-lN,hd,lI (J2 xs)]
 have hd2:s.drop (k+33)=Zr xs++r:=by
  have h1:(Z3 0).length=1:=by rw[Xq (by decide)];rfl
  rw[show k+33=k+32+1 by omega,<-lN,hd1,lI h1]
 have hgx:Yy 1 131072 (s.drop (k+33))=some (xs,r):=by
  rw[hd2];unfold Zr;rw[lQ];exact Ow (by (have : (128:Nat) ^ 9=9223372036854775808:=by decide);omega) hx (by omega)
 rw[<-hds] at hd ⊢;have hdg:=iD (fun W (h:Blk W g 305 [.slice A s.length c,.int .i64 (k:Int)]) hR'=>Zkr s A c k g n0 ds _ _ [] W h hR' hs hc hdl hd);have hrf:=iD Z2r;have hkn:=iD hkx;have hg:=hB.lt;clear hkx hd;go_enter func209,ntmps209;go_wp2_with fail;generalize hW1:lG w _=w1;have hb1:Below w.heap.size w w1:=by rw[<-hW1];exact bL
 have hZ1:Blk w1 w.heap.size 59 Z2:=by rw[<-hW1];exact Blk.new_at (cs:=Z2) rfl
 have hB1:=hB.below hb1 hg;have hR1:Src n0 g w1 A s:=hR.stay (fun b hb hlt=>hb1.block b hlt) (fun b hb _=>hb);have hn1:n0<=w1.heap.size:=lB hn0 hb1.size;clear hW1;refine (hdg.out w1 hB1 hR1).mono ?_;rintro e w2 ⟨rfl,hB2,hT2⟩;have hZ2:=hZ1.touch hT2 (by simp;omega);have hR2:=hR1.touch hT2 hn1;have hT02:Touch [g] w w2:=(Touch.ofBelow hb1).trans hT2 (fun i hi=>.inl hi);have hg2:=hB2.lt;have hdo:∀ v ∈ ds.map B,v.oneCell'=true:=Y5 _;clear hdg hB1 hR1 hZ1 hT2 hB hR;replace hB2:=iD hB2;replace hR2:=iD hR2;replace hZ2:=iD hZ2;replace hT02:=iD hT02;replace hds:=iD hds;go_upto_region 2 with (first
  | (refine Zd rfl 59 (.tmp 11) (.tmp 19) rfl w2.heap.size (ds.map B) rfl rfl 59 Z2 (Blk.new_at rfl) (by simp[hdl,Z2]) (Zg hdl) hdo ?_;go_frame)
  | fail)
 generalize hW3:nD _ w2.heap.size _=w3;have hD3:Blk w3 w2.heap.size 59 (ds.map B):=by rw[<-hW3];exact (Blk.new_at (cs:=Z2) rfl).setRow_same (ds.map B)
 have hb3:Below w2.heap.size w2 w3:=by rw[<-hW3];exact below_setRow ((lF _ _).alloc (lE _) (.cells Z2.toArray 59)) (lE _) (ds.map B).toArray
 have hB3:=hB2.out.below hb3 hg2;have hZ3:=hZ2.out.below hb3 hZ2.out.lt;have hR3:Src n0 g w3 A s:=hR2.out.stay (fun b hb hlt=>hb3.block b hlt) (fun b hb _=>hb);have hT03:Touch [g] w w3:=hT02.out.trans (Touch.ofBelow hb3) (fun i hi=>.inl hi);have hg3:=hB3.lt;obtain⟨db,hdb⟩:∃ db,db=w2.heap.size:=⟨_,rfl⟩;have hdbg:db ≠ g:=by omega
 have hdbw:w.heap.size<db:=by rw[hdb];exact hZ2.out.lt
 rw[<-hdb] at hD3 ⊢;clear hW3 hb3 hB2 hZ2 hR2 hT02 hdb;replace hB3:=iD hB3;replace hR3:=iD hR3;replace hZ3:=iD hZ3;replace hD3:=iD hD3;replace hT03:=iD hT03;refine Y7 11 (by kernel_rfl) (by kernel_rfl) ?_;simp only[lZ,l0,l3,lW];repeat (first | go_big_quiet_step (fail))
 refine lC ?_;rintro _ ⟨nq,rfl⟩;have hB4:=hB3.out.drewN nq;have hZ4:=hZ3.out.drewN nq;have hD4:=hD3.out.drewN nq;have hR4:Src n0 g (w3.drewN nq) A s:=hR3.out.drewN nq;have hT04:Touch [g] w (w3.drewN nq):=hT03.out.trans (Touch.drewN nq) (fun i hi=>.inl hi);clear hB3 hR3 hZ3 hD3 hT03;generalize w3.drewN nq=w4 at hB4 hZ4 hD4 hR4 hT04 ⊢;replace hB4:=iD hB4;replace hR4:=iD hR4;replace hZ4:=iD hZ4;replace hD4:=iD hD4;replace hT04:=iD hT04;have hnm:=Za9 s A c (k+32) 0 g n0 (Zr xs++r) _ [] w4 hB4.out hR4.out (by omega) hs (by decide) hd1;have hp0:(Z3 0).length=1:=by rw[Xq (by decide)];rfl
 rw[hp0] at hnm;clear hp0;go_wp2_with fail;refine (hrf.out _ _).mono ?_;rintro e wz ⟨rfl,hwz⟩;rw[hwz];clear hwz wz;go_wp2_with fail;refine hnm.mono ?_;rintro e w6 ⟨rfl,hB6,hT6⟩;have hZ6:=hZ4.out.touch hT6 (by simp;omega);have hD6:=hD4.out.touch hT6 (by simp;omega);have hR6:Src n0 g w6 A s:=hR4.out.touch hT6 (lB hn0 hT04.out.size);have hT06:=hT04.out.trans hT6 (fun i hi=>.inl hi);clear hnm hB4 hR4 hZ4 hD4 hT04 hT6;replace hB6:=iD hB6;replace hR6:=iD hR6;replace hZ6:=iD hZ6;replace hD6:=iD hD6;replace hT06:=iD hT06;go_wp2_with fail;refine (hrf.out _ _).mono ?_;rintro e wz ⟨rfl,hwz⟩;rw[hwz];clear hwz wz;go_wp2_with fail;refine (hrf.out _ _).mono ?_;rintro e wz ⟨rfl,hwz⟩;rw[hwz];clear hwz wz;go_wp2_with fail;have hgt:Hid (∀ x:Cls (Yz w6),Calls lA 145 #[.slice A s.length c,.int .i64 ((k+33:Nat):Int)] x.1 fun e w'=>Qv s (k+33) e/\w'=x.1):=iD (by rintro ⟨_,q,rfl⟩;exact Z3m s A c (k+33) (w6.drewN q) ((hR6.out.weak (fun _ _ _=>trivial)).drewN q) (by omega) hs hc);have c0:∀ x:Cls (Yz w6),x.1.cell? ⟨g,0,none⟩=some (.slice A s.length c):=by rintro ⟨_,q,rfl⟩;exact (hB6.out.drewN q).cell 0
 have c1:∀ x:Cls (Yz w6),x.1.cell? ⟨g,1,none⟩=some (.int .i64 ((k+33:Nat):Int)):=by rintro ⟨_,q,rfl⟩;exact (hB6.out.drewN q).cell 1
 haveI : Nonempty (Cls (Yz w6)):=⟨⟨w6,0,rfl⟩⟩;replace hgx:=iD hgx;refine Yh (fun w'=>∃ x:Cls (Yz w6),w'=x.1) [([0,1,2,3,4,5,6,7],8)] [9,10,11,12,13,14] 15 [] (by kernel_rfl) (by kernel_rfl) (fun _ d _ _ _ h=>by cases d <;> exact h) ⟨⟨_,1,rfl⟩,rfl⟩ ?_;simp only[Y4,Z7,lO,lP,Zo,Zn];repeat (first | go_big_quiet_step (fail))
 refine lC ?_;intro K hK;go_simp;refine (hgt.out ⟨_,1,rfl⟩).mono ?_;rintro e w8 ⟨⟨u,r',hn',rfl⟩ | ⟨hn',_⟩,rfl⟩
 case inr =>
  rw[hgx.out] at hn';cases hn'
 rw[hgx.out] at hn'
 injection hn' with hn'
 injection hn' with e1 e2
 subst e1;subst e2;unfold Z1;refine hK _ _ ⟨⟨_,1,rfl⟩,rfl⟩ ?_;clear hK hgt c0 c1;repeat (first | go_big_quiet_step (fail))
 refine lC ?_;have hB8:=hB6.out.drewN 1;have hZ8:=hZ6.out.drewN 1;have hD8:=hD6.out.drewN 1;have hT08:Touch [g] w (w6.drewN 1):=hT06.out.trans (Touch.drewN 1) (fun i hi=>.inl hi);have d1:(w6.drewN 1).cell? ⟨g,1,none⟩=some (.int .i64 ((k+32+1:Nat):Int)):=hB8.cell 1;have f1:=hB8.frozen 1;clear hB6 hR6 hZ6 hD6 hT06
 change wpList _ _ _ _ _ (w6.drewN 1)
 generalize w6.drewN 1=w8 at hB8 hZ8 hD8 hT08 d1 f1 ⊢;have hB9:=hB8.set_ 1 (.int .i64 ((s.length - r.length:Nat):Int));have hT89:Touch [g] w8 (w8.setCell ⟨g,1,none⟩ (.int .i64 ((s.length - r.length:Nat):Int))):=Touch.setCell _ (by simp);have hZ9:=hZ8.touch hT89 (by simp;omega);have hD9:=hD8.touch hT89 (by simp;omega);have hT09:=hT08.trans hT89 (fun i hi=>.inl hi);clear hB8 hZ8 hD8 hT08 hT89;replace hB9:=iD hB9;replace hZ9:=iD hZ9;replace hD9:=iD hD9;replace hT09:=iD hT09;go_wp2_with fail;refine (hrf.out _ _).mono ?_;rintro e wz ⟨rfl,hwz⟩;rw[hwz];clear hwz wz;go_wp2_with fail;generalize hW9:lH w8 _ _=w9 at hB9 hZ9 hD9 hT09 ⊢;clear hW9 d1 f1;obtain⟨PS,hPS⟩:∃ PS:World->Prop,∀ y,PS y ↔ Below w9.heap.size w9 y:=⟨_,fun _=>nS⟩;have s1:Hid (∀ w',(∃ y:Cls PS,w'=y.1)->Blk w' db 59 (ds.map B)):=iD (by rintro _ ⟨y,rfl⟩;exact hD9.out.below ((hPS _).1 y.2) hD9.out.lt);have s4:PS w9.drew:=(hPS _).2 (lF _ _).drew;haveI : Nonempty (Cls PS):=⟨⟨_,s4⟩⟩;have hsum:=iD (fun W c (hb:Below w9.heap.size w9 W) (hr:Rd W (· < W.heap.size) (some ⟨w9.heap.size,0,none⟩) (xs.map B)/\xs.length<=c)=>Ql xs (some ⟨w9.heap.size,0,none⟩) c W hr.1 hr.2 (by omega) (hkn.out W (hT09.out.trans (Touch.ofBelow hb) (fun i hi=>.inl hi))));rw[<-hds.out] at hsum;replace hPS:=iD hPS;refine Yh (fun w'=>∃ y:Cls PS,w'=y.1) [([0,3],1),([],2)] [4] 5 [] (by kernel_rfl) (by kernel_rfl) (fun _ d _ _ _ h=>by cases d <;> exact h) ⟨⟨_,s4⟩,rfl⟩ ?_;simp only[Y4,Z7,lO,lP,Zo,Zn];repeat (first | go_big_quiet_step (fail) | (refine Yq 59 (.tmp 11) rfl rfl db 0 rfl 59 (ds.map B) (ds.map B) [] s1.out (by simp) _ underlying59 rfl (Zg hdl) ?_;go_frame))
 refine lC ?_;intro K hK;refine Js _ rfl (.tmp 93) rfl xs rfl ?_;intro y1 c1 hb1 hlt1 hc1 hrd1;have hb91:Below w9.heap.size w9 y1:=(lF _ _).drew.trans hb1;refine hK _ _ ⟨⟨_,(hPS.out _).2 hb91⟩,rfl⟩ ?_;clear hK;refine lC ?_;intro K hK;go_simp;refine (hsum.out y1 c1 hb91 ⟨hrd1.weak (fun b h _=>h),hc1⟩).mono ?_;rintro e y2 ⟨rfl,hb2⟩;have hb92:=hb91.trans (hb2.mono hb91.size);refine hK _ _ ⟨⟨_,(hPS.out _).2 hb92⟩,rfl⟩ ?_;clear hK hb1 hlt1 hc1 hrd1 hb91 hb2 hsum s1 s4;repeat (first | go_big_quiet_step (fail) | (refine Zc (.binOp .neq 59 (.tmp 95) (.tmp 96) 59) rfl rfl (.bool false) (fun w' _=>(Xx w' rfl ds ds rfl rfl hdl hdl).trans (by simp)) ?_;go_frame))
 refine lC ?_
 change wpList _ _ _ _ _ y2
 have hB10:=hB9.out.below hb92 hB9.out.lt;have hZ10:=hZ9.out.below hb92 hZ9.out.lt;have hD10:=hD9.out.below hb92 hD9.out.lt;have hT10:=hT09.out.trans (Touch.ofBelow hb92) (fun i hi=>.inl hi);clear hB9 hZ9 hD9 hT09 hb92 hPS;replace hB10:=iD hB10;replace hZ10:=iD hZ10;replace hD10:=iD hD10;replace hT10:=iD hT10;go_wp2_with fail;refine (hrf.out _ _).mono ?_;rintro e wz ⟨rfl,hwz⟩;rw[hwz];clear hwz wz;go_wp2_with (first
  | (refine Zy rfl 59 (.tmp 11) rfl db rfl 59 (ds.map B) hD10.out _ underlying59 rfl (Zg hdl) ?_;go_frame)
  | (refine Zd rfl 59 (.tmp 8) (.tmp 99) rfl w.heap.size (ds.map B) rfl rfl 59 Z2 hZ10.out (by simp[hdl,Z2]) (Zg hdl) hdo ?_;go_frame)
  | fail)
 exact Z1r rfl w.heap.size 59 (ds.map B) _ rfl (hZ10.out.setRow_same _) underlying59 rfl (Zg hdl) rfl _ _ rfl rfl ⟨rfl,hB10.out.setRow_far (by omega) _,hT10.out.trans (Touch.setRow (L:=[w.heap.size]) (by simp) _) (fun i hi=>.inr (by simp at hi;omega))⟩
end
end Go.Proofs.YtefjlobdifjogaaGreatDoor
