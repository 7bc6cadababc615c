import Derived.Test.YtefjlobdifjogaaGreatDoorP27
open Array renaming getElem?_eq_none → lB
open BitVec renaming ofInt → lD
open Go.World renaming cell? → lA
open List renaming map_set → lC
namespace Go.Proofs.YtefjlobdifjogaaGreatDoor
open Go.RowKit
theorem Zn3(x:Int)(l:Nat)(h0:0<l)(h1:l<=140737488355328):∃ k:Nat,k<l/\(wrap64 (x.tmod l+l)).tmod l=(k:Int):=by
 have h2:=Int.tmod_lt_of_pos x (show (0:Int)<l by omega);have h3:=Int.lt_tmod_of_pos x (show (0:Int)<l by omega);rw[show wrap64 (x.tmod l+l)=x.tmod l+l by unfold wrap64;omega];have h4:=Int.tmod_lt_of_pos (x.tmod l+l) (show (0:Int)<l by omega);have h5:=Int.tmod_nonneg (l:Int) (show 0<=x.tmod l+l by omega);exact⟨((x.tmod l+l).tmod l).toNat,by omega,by omega⟩
theorem Zn4(m:PMsg):36<=(Zs m).length:=by
 have h:=Z4m (m:=m);have h1:1<=(K9 m).length:=by
  have : 1<=(Z3 m.kind.toNat).length:=by
   by_cases hn:m.kind.toNat<128
   ·rw[Xq hn];simp
   ·rw[Ot (by omega)];simp
  simp only[K9,List.length_append];omega
 omega
theorem Zw.set{w:World}{base g n c:Nat}{xs:Str}(h:Zw w base (.slice (some ⟨g,0,none⟩) n c) xs)(k:Nat)(y:UInt8)(hk:k<xs.length) :
  Zw (w.setCell ⟨g,k,none⟩ (B y)) base (.slice (some ⟨g,0,none⟩) n c) (xs.set k y):=by
 rcases h with ⟨h,rfl⟩ | ⟨g',cap,cs,fz,h,hb,ho,hl,hm,h1,h2⟩
 ·simp at hk
 ·injection h with e1 e2 e3
  injection e1 with e1
  injection e1 with e1
  subst e1 e2 e3;have hn:(w.setCell ⟨g,k,none⟩ (B y)).heap[g]?=some (.cells (cs.setIfInBounds k (B y)) 5 fz):=by
   simp[World.setCell,Array.getElem?_modify,ho]
  have hcell:∀ j,(w.setCell ⟨g,k,none⟩ (B y)).cell? ⟨g,j,none⟩=(cs.setIfInBounds k (B y))[j]?:=fun j=>by simp[lA,hn]
  have hcell0:∀ j,w.cell? ⟨g,j,none⟩=cs[j]?:=fun j=>by simp[lA,ho]
  have hfz:∀ j,(w.setCell ⟨g,k,none⟩ (B y)).frozen? ⟨g,j,none⟩=w.frozen? ⟨g,j,none⟩:=fun j=>by simp[World.frozen?,hn,ho]
  refine .inr ⟨g,c,_,fz,by simp,hb,hn,by simpa using hl,hm,fun j u hu=>?_,fun j hj=>⟨?_,by rw[hfz];exact (h2 j hj).2⟩⟩
  ·rw[hcell];have hkc:k<cs.size:=by
    have:=(h2 k (by omega)).1;rw[hcell0] at this;by_cases hh:k<cs.size
    ·exact hh
    ·simp[lB (Nat.le_of_not_lt hh)] at this
   by_cases hjk:k=j
   ·subst hjk;rw[lC,List.getElem?_set_self (by simpa using hk)] at hu;rw[Array.getElem?_setIfInBounds_self_of_lt hkc];exact hu
   ·rw[lC,List.getElem?_set_ne hjk] at hu;rw[Array.getElem?_setIfInBounds_ne hjk,<-hcell0];exact h1 j u hu
  ·have:=(h2 j hj).1;rw[hcell0] at this;rw[hcell];by_cases hh:j<cs.size
   ·simp[hh]
   ·simp[lB (Nat.le_of_not_lt hh)] at this
theorem Zw.spot{w:World}{base g n c:Nat}{xs:Str}(h:Zw w base (.slice (some ⟨g,0,none⟩) n c) xs){k:Nat}(hk:k<xs.length) :
  n=xs.length/\base<=g/\w.cell? ⟨g,k,none⟩=some (B (xs.getD k 0))/\w.frozen? ⟨g,k,none⟩=false:=by
 rcases h with ⟨h,rfl⟩ | ⟨g',cap,cs,fz,h,hb,ho,hl,hm,h1,h2⟩
 ·simp at hk
 ·injection h with e1 e2 e3
  injection e1 with e1
  injection e1 with e1
  subst e1 e2 e3;exact⟨rfl,hb,h1 k _ (by simp[List.getElem?_eq_getElem hk,List.getD]),(h2 k (by omega)).2⟩
theorem b_xor(x y:UInt8):bits .xor .u8 (bv x) (bv y)=bv (x ^^^ y):=by
 show IntKind.u8.wrap ((lD 8 (bv x) ^^^ lD 8 (bv y)).toNat:Int)=_;rw[Z13,Z13,Z5r,Nat.mod_eq_of_lt (BitVec.isLt _)];rfl
end Go.Proofs.YtefjlobdifjogaaGreatDoor
