import Derived.Test.YtfdimggmljkkbaaGreatDoorP15
import Derived.Lib.ConvBytes
open Bool renaming and_eq_true → lC
open Go renaming getD_replicate_false → lE
open Go.Fence renaming wide → lA
open Go.Region renaming seqB → lB, lexTailB → lD
namespace Go.Proofs.YtfdimggmljkkbaaGreatDoor
section
open Go.RowKit Go.Shelf
section
variable {P:Program} {ops:Array Oper} {C:World->Prop} {md:Region.Mode} {m:Nat}
theorem Zkj{n:Nat}{o:Oper}{a:Act}{K:Act->World->Prop}{Q:Exit->Act->World->Prop}:∀ r,o.upon P a K Q r->o.uponIn lA n P a K Q r:=by
 intro r h;have hd:lA.depth.isSome=true->1<=n:=fun h=>by cases h
 match r with
 | .ok (.value v) w'=>exact h
 | .ok .skip w'=>exact h
 | .ok (.defer d) w'=>exact h
 | .ok (.enter f args) w'=>exact⟨hd,callsIn_wide.2 h⟩
 | .ok (.row row args) w' =>
  refine⟨hd,fun c cs _=>?_⟩;obtain⟨v,w2,h1,h2⟩:=h c cs;exact⟨v,w2,h1,stepsIn_wide.2 h2⟩
 | .ok (.round ..) w'=>exact h.elim
 | .halt (.panic v) w'=>exact h
theorem Zkk{i:Nat}{a:Act}{K:Act->Prop}{K':Act->World->Prop}{Q':Exit->Act->World->Prop}{w:World}(hC:C w)(h:∀ a w',C w'->K a->K' a w')(hh:qOp P ops C i K a):wpOpIn lA m P ops Q' i K' a w:=by
 unfold qOp at hh;unfold wpOpIn;split
 ·rename_i ho;simp only[ho] at hh;exact h _ _ hC hh
 ·rename_i o ho;simp only[ho] at hh;split
  ·rename_i hw;simp only[hw,if_true] at hh;exact⟨fun _ _=>trivial,Zkj _ (Oper.wp_of_quiet hC h hh)⟩
  ·rename_i hw;simp only[hw] at hh;exact⟨fun _ _=>trivial,h _ _ hC hh⟩
theorem Zb0{n g:Nat}{L:Array Bool->Act->Prop}{Q':Exit->Act->World->Prop}(hL:∀ listed a w,C w->L listed a->wpAnyIn lA m P md ops Q' g listed a w) :
  ∀ (f:Nat) (listed:Array Bool) (a:Act) (w:World),C w->Gt P md ops C n L f listed a->wpAnyIn lA m P md ops Q' (f+g) listed a w
 | 0,listed,a,w,hw,h=>by rw[Nat.zero_add];exact hL _ _ _ hw h
 | f+1,listed,a,w,hw,h=>by
  rw[show f+1+g=(f+g)+1 by omega];exact⟨fun h0=>absurd h0 h.1,fun i hi=>Zkk hw (fun a' w' hw' h'=>Zb0 hL f _ a' w' hw' h') (h.2 i hi).2⟩
theorem Zb1{Q':Exit->Act->World->Prop}:∀ (l:List Oper) (k:Nat) (listed:Array Bool) (a:Act) (w:World),(∀ j,l[j]?=ops[k+j]?) ->
  lB md ops l.length k listed=true->wpListIn lA m P ops Q' l a w->wpAnyIn lA m P md ops Q' l.length listed a w
 | [],_,_,_,_,_,hB,h=>⟨by simpa[lB] using hB,h⟩
 | o :: l,k,listed,a,w,hl,hB,h=>by
  have h0:ops[k]?=some o:=by simpa using (hl 0).symm
  simp only[List.length_cons,lB,lC,decide_eq_true_eq] at hB;refine⟨fun h1=>(by rw[hB.1] at h1;cases h1),fun i hi=>?_⟩;rw[hB.1] at hi;have hik:i=k:=by simpa using hi
  subst hik;have hw:wpOpIn lA m P ops Q' i (wpListIn lA m P ops Q' l) a w:=by unfold wpOpIn;simp only[h0];exact h
  exact wpOpIn_mono (fun a' w' h'=>Zb1 l (i+1) _ a' w' (fun j=>by have:=hl (j+1);simpa[Nat.add_assoc,Nat.add_comm 1 j] using this) hB.2 h') hw
theorem Zkl{id:Nat}{Q:Exit->Act->World->Prop}{a:Act}{w:World}{l:List Oper}(n:Nat)(hm:P.follows .mixedOrders=true)(hB:lD .any l.toArray n=true)
  (h:wpQuiet P l.toArray (fun w'=>∃ n,w'=w.drewN n) (fun a'=>∀ w',(∃ n,w'=w.drewN n)->wpListIn lA m P l.toArray Q (l.drop n) a' w') (l.take n) a):(Code.region id l.toArray true).wpIn lA m P Q a w:=by
 simp only[lD,lC,decide_eq_true_eq] at hB;obtain⟨⟨⟨⟨hsel,hn⟩,hs⟩,hc⟩,hlex⟩:=hB;have hn':n<l.length:=by simpa using hn
 have htl:(l.take n).length=n:=by simp;omega
 have hdl:(l.drop n).length=l.toArray.size - n:=by simp
 have inv0:HeadInv .any l.toArray n (Array.replicate l.toArray.size false) :=
  ⟨by simp,fun j oj _ hl=>(by rw[lE] at hl;cases hl),fun t _ ht=>getD_in (by simpa using ht) (lE _ _)⟩
 have H:=Z4e (md:=.any) (g:=l.toArray.size - n) hsel hs hc hn (l.take n) 0 _ a (fun j hj=>by
  have hj':j<n:=by rw[htl] at hj;exact hj
  simp[hj']) (by simpa using htl) inv0 (by rw[htl];exact hlex) h
 refine wpIn_region_any hm ?_;have:=Zb0 (m:=m) (Q':=Q) (g:=l.toArray.size - n) (fun listed a' w' hw' hL=>by
  have:=Zb1 (m:=m) (md:=.any) (Q':=Q) (l.drop n) n listed a' w' (fun j=>by simp[List.getElem?_drop]) (by rw[hdl];exact hL.1) (hL.2 w' hw');rw[hdl] at this;exact this) (l.take n).length _ a { w with drawn:=w.drawn+1 } ⟨1,rfl⟩ H
 rw[htl,show n+(l.toArray.size - n)=l.toArray.size by simp;omega] at this;exact this
end
end
section

end
section

end
section

end
end Go.Proofs.YtfdimggmljkkbaaGreatDoor
