import Derived.OrdersHeld
import Derived.Deep.RegionHeld
import Derived.Test.YtefjlobdifjogaaGreatDoorP04
open Array renaming replicate → lM
open Bool renaming and_eq_true → lB
open Go renaming getD_replicate_false → lI, wpOp_mono → lO, ready_mono → lS, wpOp_step → lW, wp_region_any → lY
open Go.Act renaming put → lE
open Go.Code renaming region → lX
open Go.Oper renaming quietUpon → lJ, quietAt → lT, wp → lV
open Go.Proofs.Tryz renaming prog → l0
open Go.Region renaming Mode → lC, ready → lD, noSelect → lG, binds → lR, wanted → lU, free → l7, noSelect_spec → l8, free_spec → l9
open Go.Result renaming andThen_ok → l4, andThen → l6
open Go.RowKit.Below renaming refl → l1
open Go.Sem renaming run_bind → l3, run_pure → l5
open List renaming mem_append → lA, all_eq_true → lH, map_cons → lK, length_nil → lL, length_cons → lZ, length_append → l2, append_assoc → nA
open List.cons renaming injEq → lP
open Nat renaming zero_add → lF, le_trans → lN, le_refl → lQ
namespace Go.Proofs.YtefjlobdifjogaaGreatDoor
section
open Go.RowKit
section
variable {P:Program} {md:lC} {ops:Array Oper} {S:World->Prop} {Q:Exit->Act->World->Prop}
def Cls(F:World->Prop):Type:={ x:World // F x }
def Kt(P:Program)(md:lC)(ops:Array Oper)(Q:Exit->Act->World->Prop)(S:World->Prop)(late:List Nat):Nat->Array Bool->Act->World->Prop
 | 0,listed,a,w=>lD md ops listed=[]/\Q .normal a w
 | f+1,listed,a,w=>(lD md ops listed=[]->Q .normal a w) /\
  ∀ i ∈ lD md ops listed,wpOp P ops Q i (fun a' w'=>(i ∉ late->S w')/\Kt P md ops Q S late f (listed.setIfInBounds i true) a' w') a w
theorem Oy{late:List Nat}:∀ (fuel:Nat) (listed:Array Bool) (a:Act) (w:World),Kt P md ops Q S late fuel listed a w->wpAny P md ops Q fuel listed a w
 | 0,_,_,_,h=>h
 | fuel+1,_,_,_,h=>⟨h.1,fun i hi=>lO (fun a' w' h'=>Oy fuel _ a' w' h'.2) (h.2 i hi)⟩
theorem Z71{t0:Nat}{tl hd:List Nat}{i:Nat}{oi:Oper}{v:Value}(hi:ops[i]?=some oi)(hsel:∀ (j:Nat) (o:Oper) cs b,ops[j]?=some o->o.op ≠ .select cs b)
  (hs:K2 md ops t0 hd=true) (hc:Ju md ops t0 tl=true) (hin:i ∈ hd) (hnl:i ∉ t0 :: tl)
  (hQ:∀ c a w,Q (.panic c) (a.put oi.dst v) w->Q (.panic c) a w) :
  ∀ (fuel:Nat) (listed:Array Bool) (a:Act) (w:World),HeadL md ops (t0 :: tl) listed ->
   (∀ j oj,ops[j]?=some oj->j ≠ i->listed.getD j true=false->(∀ e ∈ oj.after,lR md e=true->e.on ≠ i)->oi.apart ops oj=true) ->
   i ∈ lD md ops listed->YieldsIf P ops S oi v a->S w ->
   Kt P md ops Q S (t0 :: tl) fuel (listed.setIfInBounds i true) (a.put oi.dst v) w->Kt P md ops Q S (t0 :: tl) (fuel+1) listed a w:=by
 intro fuel;induction fuel with
 | zero =>
  intro listed a w inv _ hr hy hS H;refine⟨fun h=>(by rw[h] at hr;cases hr),fun j hj=>?_⟩;by_cases hji:j=i
  ·subst hji;exact hy.wpOp hi hS ⟨fun _=>hS,H⟩
  ·have:=lS hj hji;rw[H.1] at this;cases this
 | succ fuel ih =>
  intro listed a w inv hfree hr hy hS H;have hun:=(mem_ready.1 hr).1;refine⟨fun h=>(by rw[h] at hr;cases hr),fun j hj=>?_⟩;have hjn:j ∉ t0 :: tl:=fun hm=>Gs hc inv hd hs i hin hun j hm hj;by_cases hji:j=i
  ·subst hji;exact hy.wpOp hi hS ⟨fun _=>hS,H⟩
  ·have h1:=H.2 j (lS hj hji);obtain⟨hjun,oj,hoj,hall⟩:=mem_ready.1 hj;have hnot:∀ e ∈ oj.after,lR md e=true->e.on ≠ i:=fun e he hb heq=>by
    have h1:=hall e he hb;rw[heq,getD_both hun] at h1;cases h1
   have h2:=wpOp_putIf hoj (hfree j oj hoj hji hjun hnot) (fun cs b=>hsel i oi cs b hi) (fun cs b=>hsel j oj cs b hoj) hQ hy h1;have hfree':∀ k ok,ops[k]?=some ok->k ≠ i->(listed.setIfInBounds j true).getD k true=false ->
     (∀ e ∈ ok.after,lR md e=true->e.on ≠ i)->oi.apart ops ok=true:=fun k ok hk hki hun hno=>by
    refine hfree k ok hk hki ?_ hno;by_cases hjk:j=k
    ·subst hjk;exact hjun
    ·rw[getD_set_ne true hjk] at hun;exact hun
   refine lO (fun a' w' h3=>⟨h3.2.1,ih (listed.setIfInBounds j true) a' w' (inv.set hj hjn) hfree' (lS hr (Ne.symm hji)) h3.1 (h3.2.1 hjn) ?_⟩) h2;rw[Array.setIfInBounds_comm _ _ hji];exact h3.2.2
def Oz:Op->Bool
 | .load .. | .build .. => true
 | o=>Om o
theorem Z72{o:Oper}{a:Act}{v:Value}{C:World->Prop}{w:World}(ho:Oz o.op=true)(h:o.quietAt P a C w v):(execOp a.eval o).run P w=.ok (.value v) w:=by
 by_cases hp:Om o.op=true
 ·exact Z5z hp h
 ·have key:∃ x:Sem Value,execOp a.eval o=(do let y <- x;pure (.value y)):=by
   cases hop:o.op
   all_goals rw[hop] at ho hp
   all_goals first
    | (exact⟨_,by unfold execOp;rw[hop]⟩)
    | (exact⟨_,by unfold execOp;rw[hop];rfl⟩)
    | (exact absurd ho (by simpa[Oz] using hp))
    | (exact absurd rfl hp)
  obtain⟨x,hx⟩:=key;unfold lT at h;rw[hx,l3] at h ⊢;cases hr:x.run P w with
  | ok y w' =>
   rw[hr] at h;simp only[l4,l5,lJ] at h ⊢;rw[h.1,h.2]
  | halt y w' =>
   rw[hr] at h;simp[l6,lJ] at h
def Z01(P:Program)(ops:Array Oper)(Q:Exit->Act->World->Prop)(S:World->Prop)(rest:List Oper):List Oper->Act->World->Prop
 | [],a,w=>wpList P ops Q rest a w
 | o :: r,a,w=>∀ K:Act->World->Prop,(∀ a w,S w->Z01 P ops Q S rest r a w->K a w)->if lU o (yielded ops a.tmps)=true then lV P o a w K Q else K (a.put o.dst undef) w
theorem Z02{late:List Nat}:∀ (is:List Nat) (l:List Oper) (listed:Array Bool) (a:Act) (w:World),(∀ i ∈ is,i ∈ late)->is.map (ops[·]?)=l.map some ->
  K3 md ops is listed=true->wpList P ops Q l a w->Kt P md ops Q S late is.length listed a w
 | [],l,_,_,_,_,hl,hB,h=>by
  have : l=[]:=by simpa using hl.symm
  subst this;exact⟨by simpa[K3] using hB,h⟩
 | k :: s,l,listed,a,w,hlate,hl,hB,h=>by
  obtain⟨o,l',rfl⟩:∃ o l',l=o :: l':=by
   cases l with
   | nil=>simp at hl
   | cons o l'=>exact⟨o,l',rfl⟩
  simp only[lK,lP] at hl;simp only[K3,lB,decide_eq_true_eq] at hB;refine⟨fun h1=>(by rw[hB.1] at h1;cases h1),fun i hi=>?_⟩;rw[hB.1] at hi;have hik:i=k:=by simpa using hi
  subst hik;have hw:wpOp P ops Q i (wpList P ops Q l') a w:=by unfold wpOp;simp only[hl.1];exact h
  exact lO (fun a' w' h'=>⟨fun hn=>absurd (hlate i (by simp)) hn,Z02 s l' _ a' w' (fun j hj=>hlate j (by simp[hj])) hl.2 hB.2 h'⟩) hw
def Z1m(md:lC)(ops:Array Oper)(tl:List Nat):List Nat->Array Bool->Bool
 | [],listed=>K3 md ops tl listed
 | k :: s,listed=>decide (lD md ops listed=[k]) && Z1m md ops tl s (listed.setIfInBounds k true)
theorem Z73{late:List Nat}{rest:List Oper}(hrest:late.map (ops[·]?)=rest.map some):∀ (is:List Nat) (l:List Oper) (listed:Array Bool) (a:Act) (w:World),is.map (ops[·]?)=l.map some ->
  Z1m md ops late is listed=true->Z01 P ops Q S rest l a w->Kt P md ops Q S late (is.length+late.length) listed a w
 | [],l,listed,a,w,hl,hB,h=>by
  have : l=[]:=by simpa using hl.symm
  subst this;rw[lL,lF];exact Z02 late rest listed a w (fun _ h=>h) hrest hB h
 | k :: s,l,listed,a,w,hl,hB,h=>by
  obtain⟨o,l',rfl⟩:∃ o l',l=o :: l':=by
   cases l with
   | nil=>simp at hl
   | cons o l'=>exact⟨o,l',rfl⟩
  simp only[lK,lP] at hl;simp only[Z1m,lB,decide_eq_true_eq] at hB;rw[show (k :: s).length+late.length=(s.length+late.length)+1 by simp;omega];refine⟨fun h1=>(by rw[hB.1] at h1;cases h1),fun i hi=>?_⟩;rw[hB.1] at hi;have hik:i=k:=by simpa using hi
  subst hik;refine lW hl.1 (fun K hK=>?_);exact h K (fun a' w' hS hm=>hK a' w' ⟨fun _=>hS,Z73 hrest s l' _ a' w' hl.2 hB.2 hm⟩)
def Z1n(md:lC)(ops:Array Oper)(mid tl:List Nat):List Nat->Array Bool->Bool
 | [],listed=>Z1m md ops tl mid listed
 | k :: s,listed=>(lD md ops listed).contains k && l7 md ops listed k && ((ops[k]?).map (Oz ·.op)).getD false && Z1n md ops mid tl s (listed.setIfInBounds k true)
def mixB(md:lC)(ops:Array Oper)(hd mid:List Nat)(t0:Nat)(tl:List Nat):Bool :=
 lG ops && K2 md ops t0 (hd++mid) && Ju md ops t0 tl && (decide (hd.length+(mid.length+(tl.length+1))=ops.size)) && (hd.all fun i=>!(t0 :: tl).contains i) && ((hd++mid++t0 :: tl).all fun i=>decide (i<ops.size)) && Z1n md ops mid (t0 :: tl) hd (lM ops.size false)
theorem Z74{t0:Nat}{tl hd mid:List Nat}{l:List Oper}(hops:ops=l.toArray)(hsel:lG ops=true)(hs:K2 md ops t0 (hd++mid)=true)(hc:Ju md ops t0 tl=true)
  (hnt:∀ i ∈ hd,i ∉ t0 :: tl) (hlt:∀ i ∈ hd++mid++t0 :: tl,i<ops.size) (hQ:∀ c d v a w,Q (.panic c) (lE a d v) w->Q (.panic c) a w) {w:World} (hS:S w) :
  ∀ (is:List Nat) (lp:List Oper) (listed:Array Bool) (a:Act),(∀ i ∈ is,i ∈ hd)->is.map (ops[·]?)=lp.map some->HeadL md ops (t0 :: tl) listed->Z1n md ops mid (t0 :: tl) is listed=true ->
   wpQuiet P ops S (fun a'=>Z01 P ops Q S (Z7 l (t0 :: tl)) (Z7 l mid) a' w) lp a ->
   Kt P md ops Q S (t0 :: tl) (is.length+(mid.length+(t0 :: tl).length)) listed a w
 | [],lp,listed,a,_,hl,inv,hB,h=>by
  have : lp=[]:=by simpa using hl.symm
  subst this;have hm1:mid.map (ops[·]?)=(Z7 l mid).map some:=by rw[hops];exact Km (fun i hi=>by have:=hlt i (by simp[hi]);rw[hops] at this;simpa using this)
  have hm2:(t0 :: tl).map (ops[·]?)=(Z7 l (t0 :: tl)).map some:=by rw[hops];exact Km (fun i hi=>by have:=hlt i (lA.2 (.inr hi));rw[hops] at this;simpa using this)
  rw[lL,lF];exact Z73 hm2 mid (Z7 l mid) listed a w hm1 hB h
 | k :: s,lp,listed,a,hks,hl,inv,hB,h=>by
  obtain⟨o,l',rfl⟩:∃ o l',lp=o :: l':=by
   cases lp with
   | nil=>simp at hl
   | cons o l'=>exact⟨o,l',rfl⟩
  simp only[lK,lP] at hl;simp only[Z1n,lB] at hB;obtain⟨⟨⟨hr,hf⟩,hp⟩,hB'⟩:=hB;rw[hl.1] at hp;have hp':Oz o.op=true:=by simpa using hp
  have hst:qOp P ops S k (wpQuiet P ops S (fun a'=>Z01 P ops Q S (Z7 l (t0 :: tl)) (Z7 l mid) a' w) l') a:=by unfold qOp;simp only[hl.1];exact h
  obtain⟨v,hy,hK⟩:=yieldsIn_of_qOp hl.1 hst;have hy':YieldsIf P ops S o v a:=by
   rcases hy with ⟨hw,hv⟩ | ⟨hw,rfl⟩
   ·exact .inl ⟨hw,fun w hw=>Z72 hp' (hv w hw)⟩
   ·exact .inr ⟨hw,rfl⟩
  have hr':k ∈ lD md ops listed:=by simpa using hr
  rw[show (k :: s).length+(mid.length+(t0 :: tl).length)=(s.length+(mid.length+(t0 :: tl).length))+1 by simp;omega];exact Z71 hl.1 (l8 hsel) hs hc (lA.2 (.inl (hks k (by simp)))) (hnt k (hks k (by simp))) (fun c a w h=>hQ c _ _ a w h) _ listed a w inv (l9 hl.1 hf) hr' hy' hS
   (Z74 hops hsel hs hc hnt hlt hQ hS s l' _ _ (fun i hi=>hks i (by simp[hi])) hl.2 (inv.set hr' (hnt k (hks k (by simp)))) hB' hK)
theorem Z75{id:Nat}{a:Act}{w:World}{l:List Oper}(S:World->Prop)(hd mid:List Nat)(t0:Nat)(tl:List Nat)(hm:P.follows .mixedOrders=true)(hB:mixB .any l.toArray hd mid t0 tl=true)
  (hQ:∀ c d v a w,Q (.panic c) (lE a d v) w->Q (.panic c) a w) (hS:S w.drew)
  (h:wpQuiet P l.toArray S (fun a'=>Z01 P l.toArray Q S (Z7 l (t0 :: tl)) (Z7 l mid) a' w.drew) (Z7 l hd) a):(lX id l.toArray true).wp P Q a w:=by
 simp only[mixB,lB,decide_eq_true_eq] at hB;obtain⟨⟨⟨⟨⟨⟨hsel,hs⟩,hc⟩,hlen⟩,hn1⟩,hlt⟩,htk⟩:=hB;have hlt':∀ i ∈ hd++mid++t0 :: tl,i<l.toArray.size:=fun i hi=>by have:=lH.1 hlt i hi;simpa using this
 have inv0:HeadL .any l.toArray (t0 :: tl) (lM l.toArray.size false) :=
  ⟨by simp,fun j oj _ hl=>(by rw[lI] at hl;cases hl),fun t ht=>getD_in (by simpa using hlt' t (lA.2 (.inr ht))) (lI _ _)⟩
 have hm1:hd.map (l.toArray[·]?)=(Z7 l hd).map some:=Km (fun i hi=>by have:=hlt' i (by simp[hi]);simpa using this);refine lY hm ?_;have:=Oy _ _ _ _ (Z74 (md:=.any) (l:=l) (w:=w.drew) rfl hsel hs hc (fun i hi=>by have:=lH.1 hn1 i hi;simpa using this) hlt' hQ hS hd (Z7 l hd) _ a (fun _ h=>h) hm1 inv0 htk h);rw[show hd.length+(mid.length+(t0 :: tl).length)=l.toArray.size by rw[lZ];exact hlen] at this;exact this
end
end
section
open Go.RowKit
section
variable {P:Program} {md:lC} {ops:Array Oper} {S:World->Prop} {Q:Exit->Act->World->Prop}
def O2:Op->Bool
 | .lookup .. => true
 | .assign _=>true
 | .call c=>match c.callee with
  | .builtin .len=>true
  | _=>false
 | o=>Oz o
theorem Zd4{o:Oper}{a:Act}{v:Value}{C:World->Prop}{w:World}(ho:O2 o.op=true)(h:o.quietAt P a C w v):(execOp a.eval o).run P w=.ok (.value v) w:=by
 by_cases hp:Oz o.op=true
 ·exact Z72 hp h
 ·have key:(∃ x:Sem Value,execOp a.eval o=(do let y <- x;pure (.value y))) ∨ (∃ u w',(execOp a.eval o).run P w=.ok (.value u) w'):=by
   cases hop:o.op
   all_goals rw[hop] at ho hp
   case call c =>
    cases hc:c.callee with
    | builtin b =>
     cases b
     all_goals first
      | (exact .inl ⟨_,by unfold execOp;rw[hop];simp only[resolve,hc,pure_bind,invoke,builtin];rfl⟩)
      | (exact absurd ho (by simp[O2,hc]))
    | value f=>exact absurd ho (by simp[O2,hc])
    | invoke r n=>exact absurd ho (by simp[O2,hc])
   all_goals first
    | (exact .inl ⟨_,by unfold execOp;rw[hop]⟩)
    | (exact .inl ⟨_,by unfold execOp;rw[hop];rfl⟩)
    | (exact .inr ⟨_,_,by unfold execOp;rw[hop];rfl⟩)
    | (exact absurd ho (by simpa[O2] using hp))
    | (exact absurd rfl hp)
  rcases key with ⟨x,hx⟩ | ⟨u,w',hu⟩
  ·unfold lT at h;rw[hx,l3] at h ⊢;cases hr:x.run P w with
   | ok y w' =>
    rw[hr] at h;simp only[l4,l5,lJ] at h ⊢;rw[h.1,h.2]
   | halt y w' =>
    rw[hr] at h;simp[l6,lJ] at h
  ·unfold lT at h;rw[hu] at h ⊢;simp only[lJ] at h;rw[h.1,h.2]
def Qi(ts:List Nat)(listed:Array Bool):Array Bool:=ts.foldl (fun l k=>l.setIfInBounds k true) listed
def Ub(md:lC)(ops:Array Oper):List Nat->Array Bool->Bool
 | [],_=>true
 | k :: s,listed=>(lD md ops listed).contains k && l7 md ops listed k && ((ops[k]?).map (O2 ·.op)).getD false && Ub md ops s (listed.setIfInBounds k true)
abbrev Seg:=List Nat × Nat
def Uc(md:lC)(ops:Array Oper)(last tl:List Nat):List Seg->Array Bool->Bool
 | [],listed=>Ub md ops last listed && K3 md ops tl (Qi last listed)
 | (ts,m) :: r,listed=>Ub md ops ts listed && (decide (lD md ops (Qi ts listed)=[m]) && Uc md ops last tl r ((Qi ts listed).setIfInBounds m true))
def Xa:List Seg->List Nat
 | []=>[]
 | (ts,m) :: r=>ts++m :: Xa r
def Y4(P:Program)(ops:Array Oper)(Q:Exit->Act->World->Prop)(S:World->Prop)(l:List Oper)(last tl:List Nat):List Seg->Act->World->Prop
 | [],a,w=>wpQuiet P ops S (fun a'=>wpList P ops Q (Z7 l tl) a' w) (Z7 l last) a
 | (ts,m) :: r,a,w=>wpQuiet P ops S (fun a'=>∀ K:Act->World->Prop,(∀ a w,S w->Y4 P ops Q S l last tl r a w->K a w)->if lU (Jn l m) (yielded ops a'.tmps)=true then lV P (Jn l m) a' w K Q else K (a'.put (Jn l m).dst undef) w) (Z7 l ts) a
theorem Ud{t0:Nat}{tl sk:List Nat}(hsel:lG ops=true)(hs:K2 md ops t0 sk=true)(hc:Ju md ops t0 tl=true)(hnt:∀ i ∈ sk,i ∉ t0 :: tl)
  (hQ:∀ c d v a w,Q (.panic c) (lE a d v) w->Q (.panic c) a w) {w:World} (hS:S w) (X:Act->Prop) (f:Nat) :
  ∀ (is:List Nat) (lp:List Oper) (listed:Array Bool) (a:Act),(∀ i ∈ is,i ∈ sk)->is.map (ops[·]?)=lp.map some->HeadL md ops (t0 :: tl) listed->Ub md ops is listed=true ->
   wpQuiet P ops S X lp a->(∀ a',X a'->HeadL md ops (t0 :: tl) (Qi is listed)->Kt P md ops Q S (t0 :: tl) f (Qi is listed) a' w)->Kt P md ops Q S (t0 :: tl) (is.length+f) listed a w
 | [],lp,listed,a,_,hl,inv,_,h,hX=>by
  have : lp=[]:=by simpa using hl.symm
  subst this;rw[lL,lF];exact hX a h inv
 | k :: s,lp,listed,a,hks,hl,inv,hB,h,hX=>by
  obtain⟨o,l',rfl⟩:∃ o l',lp=o :: l':=by
   cases lp with
   | nil=>simp at hl
   | cons o l'=>exact⟨o,l',rfl⟩
  simp only[lK,lP] at hl;simp only[Ub,lB] at hB;obtain⟨⟨⟨hr,hf⟩,hp⟩,hB'⟩:=hB;rw[hl.1] at hp;have hp':O2 o.op=true:=by simpa using hp
  have hst:qOp P ops S k (wpQuiet P ops S X l') a:=by unfold qOp;simp only[hl.1];exact h
  obtain⟨v,hy,hK⟩:=yieldsIn_of_qOp hl.1 hst;have hy':YieldsIf P ops S o v a:=by
   rcases hy with ⟨hw,hv⟩ | ⟨hw,rfl⟩
   ·exact .inl ⟨hw,fun w hw=>Zd4 hp' (hv w hw)⟩
   ·exact .inr ⟨hw,rfl⟩
  have hr':k ∈ lD md ops listed:=by simpa using hr
  rw[show (k :: s).length+f=(s.length+f)+1 by simp;omega];exact Z71 hl.1 (l8 hsel) hs hc (hks k (by simp)) (hnt k (hks k (by simp))) (fun c a w h=>hQ c _ _ a w h) _ listed a w inv (l9 hl.1 hf) hr' hy' hS
   (Ud hsel hs hc hnt hQ hS X f s l' _ _ (fun i hi=>hks i (by simp[hi])) hl.2 (inv.set hr' (hnt k (hks k (by simp)))) hB' hK hX)
theorem Z3n{t0:Nat}{tl sk last:List Nat}{l:List Oper}(hops:ops=l.toArray)(hsel:lG ops=true)(hs:K2 md ops t0 sk=true)(hc:Ju md ops t0 tl=true)(hnt:∀ i ∈ sk,i ∉ t0 :: tl)
  (hlt:∀ i ∈ sk++t0 :: tl,i<ops.size) (hQ:∀ c d v a w,Q (.panic c) (lE a d v) w->Q (.panic c) a w) (hlast:∀ i ∈ last,i ∈ sk) :
  ∀ (segs:List Seg) (listed:Array Bool) (a:Act) (w:World),S w->(∀ i ∈ Xa segs,i ∈ sk)->HeadL md ops (t0 :: tl) listed->Uc md ops last (t0 :: tl) segs listed=true ->
   Y4 P ops Q S l last (t0 :: tl) segs a w->Kt P md ops Q S (t0 :: tl) ((Xa segs).length+(last.length+(t0 :: tl).length)) listed a w
 | [],listed,a,w,hS,_,inv,hB,h=>by
  simp only[Uc,lB] at hB;have hm1:last.map (ops[·]?)=(Z7 l last).map some:=by rw[hops];exact Km (fun i hi=>by have:=hlt i (lA.2 (.inl (hlast i hi)));rw[hops] at this;simpa using this)
  have hm2:(t0 :: tl).map (ops[·]?)=(Z7 l (t0 :: tl)).map some:=by rw[hops];exact Km (fun i hi=>by have:=hlt i (lA.2 (.inr hi));rw[hops] at this;simpa using this)
  simp only[Xa,lL,lF];exact Ud hsel hs hc hnt hQ hS _ _ last (Z7 l last) listed a hlast hm1 inv hB.1 h (fun a' ha _=>Z02 (t0 :: tl) _ _ a' w (fun _ h=>h) hm2 hB.2 ha)
 | (ts,m) :: r,listed,a,w,hS,hin,inv,hB,h=>by
  simp only[Uc,lB,decide_eq_true_eq] at hB;obtain⟨hB1,hB2,hB3⟩:=hB;have hts:∀ i ∈ ts,i ∈ sk:=fun i hi=>hin i (by simp[Xa,hi]);have hm:m ∈ sk:=hin m (by simp[Xa]);have hm1:ts.map (ops[·]?)=(Z7 l ts).map some:=by rw[hops];exact Km (fun i hi=>by have:=hlt i (lA.2 (.inl (hts i hi)));rw[hops] at this;simpa using this)
  have hmo:ops[m]?=some (Jn l m):=by
   have h1:=hlt m (lA.2 (.inl hm));rw[hops] at h1 ⊢;have h2:m<l.length:=by simpa using h1
   rw[Gr l m h2];simp[h2]
  rw[show (Xa ((ts,m) :: r)).length+(last.length+(t0 :: tl).length)=ts.length+(((Xa r).length+(last.length+(t0 :: tl).length))+1) by simp[Xa];omega];refine Ud hsel hs hc hnt hQ hS _ _ ts (Z7 l ts) listed a hts hm1 inv hB1 h (fun a' ha inv'=>?_);refine⟨fun h1=>(by rw[hB2] at h1;cases h1),fun i hi=>?_⟩;have hi0:=hi;rw[hB2] at hi;have hik:i=m:=by simpa using hi
  subst hik;refine lW hmo (fun K hK=>?_);exact ha K (fun a' w' hS' hm'=>hK a' w' ⟨fun _=>hS',Z3n hops hsel hs hc hnt hlt hQ hlast r _ a' w' hS' (fun j hj=>hin j (by simp[Xa,hj])) (inv'.set hi0 (hnt i hm)) hB3 hm'⟩)
def O3(md:lC)(ops:Array Oper)(segs:List Seg)(last:List Nat)(t0:Nat)(tl:List Nat):Bool :=
 lG ops && K2 md ops t0 (Xa segs++last) && Ju md ops t0 tl && (decide ((Xa segs).length+(last.length+(tl.length+1))=ops.size)) && ((Xa segs++last).all fun i=>!(t0 :: tl).contains i) && ((Xa segs++last++t0 :: tl).all fun i=>decide (i<ops.size)) && Uc md ops last (t0 :: tl) segs (lM ops.size false)
theorem Yh{id:Nat}{a:Act}{w:World}{l:List Oper}(S:World->Prop)(segs:List Seg)(last:List Nat)(t0:Nat)(tl:List Nat)(hm:P.follows .mixedOrders=true)(hB:O3 .any l.toArray segs last t0 tl=true)
  (hQ:∀ c d v a w,Q (.panic c) (lE a d v) w->Q (.panic c) a w) (hS:S w.drew) (h:Y4 P l.toArray Q S l last (t0 :: tl) segs a w.drew):(lX id l.toArray true).wp P Q a w:=by
 simp only[O3,lB,decide_eq_true_eq] at hB;obtain⟨⟨⟨⟨⟨⟨hsel,hs⟩,hc⟩,hlen⟩,hn1⟩,hlt⟩,hsg⟩:=hB;have hlt':∀ i ∈ (Xa segs++last)++t0 :: tl,i<l.toArray.size:=fun i hi=>by have:=lH.1 hlt i hi;simpa using this
 have inv0:HeadL .any l.toArray (t0 :: tl) (lM l.toArray.size false) :=
  ⟨by simp,fun j oj _ hl=>(by rw[lI] at hl;cases hl),fun t ht=>getD_in (by simpa using hlt' t (lA.2 (.inr ht))) (lI _ _)⟩
 refine lY hm ?_;have:=Oy _ _ _ _ (Z3n (md:=.any) (l:=l) (last:=last) rfl hsel hs hc (fun i hi=>by have:=lH.1 hn1 i hi;simpa using this) hlt' hQ (fun i hi=>lA.2 (.inr hi)) segs _ a w.drew hS (fun i hi=>lA.2 (.inl hi)) inv0 hsg h);rw[show (Xa segs).length+(last.length+(t0 :: tl).length)=l.toArray.size by rw[lZ];exact hlen] at this;exact this
end
end
section
set_option maxRecDepth 100000
set_option maxHeartbeats 1000000
open Go.Lib renaming hid → iD
open Go.Proofs.Tryz
open Go.RowKit
def Yn:List Value:=Z9 ⟨0,false,⟨false,Yf,0⟩,0⟩
theorem Kw(x:POp):∀ v ∈ Z9 x,v.oneCell'=true:=by
 intro v hv;simp only[Z9,Z4,List.mem_cons,lA,List.mem_map,List.not_mem_nil,or_false] at hv;rcases hv with rfl | rfl | (rfl | ⟨_,_,rfl⟩ | rfl) | rfl <;> rfl
theorem Qy{w:World}{g:Nat}{x:POp}(h:Blk w g 278 (Z9 x))(hx:OpFit x):w.cell? ⟨g,0,none⟩=some (.int .i64 x.kind)/\w.cell? ⟨g,1,none⟩=some (.bool x.left)/\w.cell? ⟨g,2,none⟩=some (.bool x.at_.own)/\w.cell? ⟨g,35,none⟩=some (.int .i64 x.at_.n)/\w.cell? ⟨g,36,none⟩=some (B x.byte):=by
 simp only[h.cell];refine⟨rfl,rfl,rfl,?_,?_⟩ <;> simp[Z9,Z4,hx.com]
theorem Qj{r:PRef}(hr:r.com.length=32):(l0.info? 261).map (·.size)=some (Z4 r).length:=by
 have e:(Z4 r).length=34:=by simp[Z4,hr]
 have e2:(l0.info? 261).map (·.size)=some 34:=by kernel_rfl
 rw[e2,e]
theorem Kx{x:POp}(h:OpFit x):(l0.info? 278).map (·.size)=some (Z9 x).length:=by
 have e2:(l0.info? 278).map (·.size)=some 37:=by kernel_rfl
 rw[e2,Jo h]
theorem Zdx(l:List POp)(v:Value)(ok:Nat->Prop)(k:Nat)(x:POp)(w:World)(h:Zl w ok v l)(hf:OsFit l)(hk:k<l.length)(hx:l[k]=x)(hkind:x.kind=1)(hleft:x.left=false)(href:Oq x.at_=true)
    (hown:x.at_.own=true->∃ (m:Nat) (hm:m<k),x.at_.n=(m:Int)+1/\(l[m]'(Nat.lt_trans hm hk)).kind=1) :
    Calls l0 247 #[v,.int .i64 ((k:Int)+1)] w fun e w'=>e=.returned (.int .i64 0)/\Below w.heap.size w w':=by
  have hH:=iD h;have hxf:OpFit x:=by rw[<-hx];exact hf.ok _ (List.getElem_mem hk)
  have hlen:l.length<=1759218604441:=hf.len;obtain⟨A,c,rfl,hc,hr⟩:=h;obtain⟨b,o,rfl,hob,hlt,hcell⟩:=hH.out.op hf.ok k hk;rw[hx] at hcell;have hsx:=iD (Kx hxf);have hsr:=iD (Qj hxf.com);replace hcell:=iD hcell;replace hx:=iD hx;replace hf:=iD hf;replace hxf:=iD hxf;clear hr hc;have e1:IntKind.i64.wrap ((k:Int)+1 - 1)=(k:Int):=by rw[show (k:Int)+1 - 1=k by omega];exact IntWalk.i64_in _ (by omega)
  have g1:decide ((k:Int)+1<1)=false:=decide_eq_false (by omega);have g2:decide ((l.length:Int)<(k:Int)+1)=false:=decide_eq_false (by omega);have i1:(0:Int)<=(k:Int):=by omega
  have i2:(k:Int)<(l.length:Int):=by omega
  go_enter func247,ntmps247;go_wp2_with (first
    | (refine wpList_load_mid rfl 278 (.tmp 17) rfl b (o+k*37) rfl (Z9 x) _ (fun j v hv=>hcell.out j v hv) underlying278 rfl hsx.out ?_)
    | (refine Zd rfl 278 (.tmp 5) (.tmp 18) rfl w.heap.size (Z9 x) rfl rfl 278 Yn (Blk.new_at rfl) (by rw[Jo hxf.out];rfl) hsx.out (Kw x) ?_
       generalize hw1:World.setRow _ w.heap.size (Z9 x).toArray=w1;have hB:Blk w1 w.heap.size 278 (Z9 x):=by
         rw[<-hw1];exact (Blk.new_at (w:=w) (t:=278) (cs:=Yn) rfl).setRow_same (Z9 x)
       have hb:Below w.heap.size w w1:=by
         rw[<-hw1];exact below_setRow ((l1 w.heap.size w).alloc (lQ _) (.cells Yn.toArray 278)) (lQ _) (Z9 x).toArray
       clear hw1;replace hB:=iD hB;replace hb:=iD hb;go_frame)
    | (refine Xj rfl 261 (.tmp 19) rfl w.heap.size 2 rfl 278 (Z9 x) (Z4 x.at_) [B x.byte] hB.out rfl _ underlying261 rfl hsr.out ?_)
    | fail)
  refine (Zdv x.at_ hxf.out.com hxf.out.n0 hxf.out.n1 w1).mono ?_;rintro e W ⟨rfl,hbW⟩;have hB':Blk W w.heap.size 278 (Z9 x):=hB.out.below hbW hB.out.lt;have hb':=hb.out.trans (hbW.mono hb.out.size);obtain⟨c0,c1,c2,c35,c36⟩:=Qy hB' hxf.out;replace hB':=iD hB';replace hb':=iD hb';clear hbW hB hb;rw[href];rw[hkind] at c0;rw[hleft] at c1;cases ho:x.at_.own with
  | false =>
    rw[ho] at c2;go_wp2;go_ret;exact⟨rfl,hb'.out⟩
  | true =>
    rw[ho] at c2;obtain⟨m,hm,hn,hmk⟩:=hown ho;rw[hn] at c35;have hml:m<l.length:=Nat.lt_trans hm hk;obtain⟨b',o',hA,_,_,hc'⟩:=hH.out.op hf.out.ok m hml;cases hA
    have ck:W.cell? ⟨b,o+m*37,none⟩=some (.int .i64 1):=by
      rw[hb'.out.cell (p:=⟨b,o+m*37,none⟩) hlt];have:=hc' 0 (.int .i64 l[m].kind) rfl;rw[hmk] at this;simpa using this
    clear hc';have j1:(0:Int)<=(m:Int):=by omega
    have j2:(m:Int)<(l.length:Int):=by omega
    have j3:decide ((k:Int)<=(m:Int))=false:=decide_eq_false (by omega);go_wp2_with fail;go_ret;exact⟨rfl,hb'.out⟩
theorem Z7l(t:Str)(v:Value)(ok:Nat->Prop)(k:Nat)(w:World)(h:Zl w ok v (chain t))(ht:t.length<=2000)(hk:k<t.length) :
  Calls l0 247 #[v,.int .i64 ((k:Int)+1)] w fun e w'=>e=.returned (.int .i64 0)/\Below w.heap.size w w':=by
 have hl:(chain t).length=t.length:=Jq t 0;have hat:∀ (i:Nat) (hi:i<t.length),(chain t)[i]'(by rw[hl];exact hi)=Zb i t[i]:=fun i hi=>by
  have:=Z1x t 0 i hi;rw[lF] at this;exact Option.some.inj ((List.getElem?_eq_getElem (by rw[hl];exact hi)).symm.trans this)
 refine Zdx (chain t) v ok k (Zb k t[k]) w h (Z3w (by omega)) (by omega) (hat k hk) rfl rfl (Zdw k) ?_;intro ho;have hk0:k ≠ 0:=by
  intro e;have ho':(Xd k).own=true:=ho;rw[G3] at ho';simp[e] at ho'
 refine⟨k - 1,by omega,?_,?_⟩
 ·show (Xd k).n=_;rw[Z1w];omega
 ·rw[hat (k - 1) (by omega)];rfl
end
section
set_option maxRecDepth 100000
set_option maxHeartbeats 4000000
open Go.Lib renaming hid → iD
open Go.Proofs.Tryz
open Go.RowKit
theorem Z48(k:Nat)(c:UInt8):opS (Zb k c)=(if k=0 then Z3 0 else Z3 4++Z3 k)++[c]:=by
 unfold opS atS;have e:(Zb k c).at_=Xd k:=rfl;have e2:opN (Zb k c)=0:=rfl;rw[e,e2,G3,Z1w];by_cases h:k=0
 ·subst h;simp[Zb];decide
 ·simp[h,Zb]
theorem Z87(c:UInt8):∀ v ∈ [B c],v.oneCell'=true:=by simp[Value.oneCell']
theorem Zf5(k:Nat)(c:UInt8)(hk:k<=2000)(v:Value)(xs:Str)(base:Nat)(w:World)(ho:w.ownsRow base 5 1 v xs.length (xs.map B))(hbase:base<=w.heap.size)(hx:xs.length<=1000000) :
  Calls l0 182 #[v,.agg (Z9 (Zb k c)).toArray] w (Z86 w base (xs++opS (Zb k c))):=by
 obtain⟨FA,fc,rfl,_,_⟩:=Za ho;have hf:=Vq (k:=k) c (by omega);rw[Z48];have hN:(Zb k c).at_.n=(k:Int):=Z1w k;have hO:(Zb k c).at_.own=decide (k ≠ 0):=G3 k;have hW1:=(rfl:(w.alloc (.cells (Z9 (Zb k c)).toArray 278))=_);generalize hW1e:(w.alloc (.cells (Z9 (Zb k c)).toArray 278))=w1;have hX:Blk w1 w.heap.size 278 (Z9 (Zb k c)):=by rw[<-hW1e];exact Blk.new_at (cs:=Z9 (Zb k c)) rfl
 have hb1:Below w.heap.size w w1:=by rw[<-hW1e];exact bL
 have hr1:w1.ownsRow base 5 1 (.slice FA xs.length fc) xs.length (xs.map B):=by rw[<-hW1e];exact ho.alloc _
 have hs1:=hb1.size;obtain⟨c0,c1,c2,c35,c36⟩:=Qy hX hf;rw[hN] at c35;rw[hO] at c2;have k0:w1.cell? ⟨w.heap.size,0,none⟩=some (.int .i64 1):=c0;have k1:w1.cell? ⟨w.heap.size,1,none⟩=some (.bool false):=c1;clear c0 c1 hW1;have b04:bits BinOp.or IntKind.i64 0 4=4:=by decide
 by_cases hk0:k=0
 ·subst hk0;have c2':w1.cell? ⟨w.heap.size,2,none⟩=some (.bool false):=c2;clear c2;go_enter func182,ntmps182;go_wp2_with (first
   | (refine Xj rfl 261 (.tmp 40) rfl w.heap.size 2 rfl 278 (Z9 (Zb 0 c)) (Z4 Zh) [B c] hX rfl _ underlying261 rfl (Qj rfl) ?_)
   | fail)
  have hb1':=iD hb1;have hr1':=iD hr1;have hX':=iD hX;refine (Z79 Zh rfl _).mono ?_;rintro e w2 ⟨rfl,hb2⟩;have e1:Zh.root=true:=by decide
  rw[e1];have hX2:=iD (hX'.out.below hb2 hX'.out.lt);have hr2:=iD (Zj hr1'.out (Touch.ofBelow (L:=[]) hb2) (fun _ _ hm=>by cases hm));have hb2':=iD (hb1'.out.trans (hb2.mono hb1'.out.size));have hk2:=iD ((Xl.below hb1'.out).trans (Xl.below hb2));have hsz2:base<=w2.heap.size:=by have:=hb2.size;omega
  clear hb1 hr1 hX c35 c36 c2' k0 k1 hX' hr1';go_wp2_with fail;refine (Z07 0 _ xs base _ (by omega) hr2.out hsz2 (by omega)).mono ?_;rintro e w3 ⟨V,rfl,hr3,hb3,hk3⟩;have hX3:=hk3 _ _ _ hX2.out (by decide);obtain⟨p0,p1,p2,p35,p36⟩:=Qy hX3 hf;have q0:w3.cell? ⟨w.heap.size,0,none⟩=some (.int .i64 1):=p0;have q36:w3.cell? ⟨w.heap.size,36,none⟩=some (B c):=p36;obtain⟨GA,gc,rfl,_,_⟩:=Za hr3;have hb3':=iD ((hb2'.out.mono hbase).trans hb3);have hk3':=iD (hk2.out.trans hk3);have hsz3:base<=w3.heap.size:=lN hsz2 hb3.size;have hl3:(xs++Z3 0).length<=1000020:=by
   have : (Z3 0).length=1:=by rw[Xq (by omega)];rfl
   simp only[l2,this];omega
  obtain⟨ys,hys⟩:∃ ys,ys=xs++Z3 0:=⟨_,rfl⟩;rw[<-hys] at hr3 hl3 ⊢;replace hr3:=iD hr3;clear p0 p1 p2 p35 p36 hb3 hk3 hX2 hr2;replace hys:=iD hys;go_wp2_with (at_builtin;refine Yt _ rfl (.tmp 49) (.tmp 52) 57 rfl base 5 (B 0) 1 1 underlying57 Kh (.slice GA ys.length gc) ys.length (ys.map B) rfl (hr3.out.alloc _) (fun _=>True) (some ⟨w3.heap.size,0,none⟩) 1 1 [B c] rfl rfl (Rd.of_blk (cs:=[B c]) (r:=[]) (Blk.new_at rfl) rfl trivial) (Z87 c) (by unfold maxLen;omega) (by omega) (by simp;omega) ?_;intro v4 W4 hrow4 hg4 hv4;replace hrow4:=iD hrow4;replace hg4:=iD hg4;clear hv4;obtain⟨VA,vc,rfl,_,_⟩:=Za hrow4.out;go_frame);go_ret;refine⟨_,rfl,?_,hb3'.out.trans (Yo (hr3.out.alloc _) hg4.out (by simp;omega) |>.mono (lQ _) |> fun h=>(bL |>.mono hsz3).trans h),?_⟩
  ·have h1:=hrow4.out;have h2:xs++(Z3 0++[c])=ys++[c]:=by rw[hys.out,nA]
   rw[h2];simpa using h1
  ·exact hk3'.out.trans ((Xl.below bL).trans (Xl.grown (hr3.out.alloc _) hg4.out))
 ·have c2':w1.cell? ⟨w.heap.size,2,none⟩=some (.bool true):=by rw[c2];simp[hk0]
  clear c2;go_enter func182,ntmps182;go_wp2_with fail;obtain⟨PS,hPS⟩:∃ PS:World->Prop,∀ x,PS x ↔ x.cell? ⟨w.heap.size,35,none⟩=some (.int .i64 k):=⟨_,fun _=>Iff.rfl⟩;have s1:∀ s:Cls PS,s.1.cell? ⟨w.heap.size,35,none⟩=some (.int .i64 k):=fun s=>(hPS _).1 s.2;have s4:PS w1.drew:=(hPS _).2 c35;haveI : Nonempty (Cls PS):=⟨⟨_,s4⟩⟩;replace hPS:=iD hPS;refine Z75 (fun w'=>∃ s:Cls PS,w'=s.1) [0,1,2,4,5,6] [3] 7 [8] (by kernel_rfl) (by kernel_rfl) (fun _ d _ _ _ h=>by cases d <;> exact h) ⟨⟨_,s4⟩,rfl⟩ ?_;simp only[Z7,lK,List.map_nil,Zo,Zn];repeat (first | go_big_quiet_step (fail))
  refine wpQuiet_nil ?_;intro K hK;go_simp;refine (Z07 4 _ xs base _ (by omega) hr1.drew (by simpa using lN hbase hs1) (by omega)).mono ?_;rintro e w3 ⟨V,rfl,hr3,hb3,hk3⟩;have hX3:=hk3 _ _ _ hX.drew (by decide);obtain⟨p0,p1,p2,p35,p36⟩:=Qy hX3 hf;rw[hN] at p35;refine hK _ _ ⟨⟨_,(hPS.out _).2 p35⟩,rfl⟩ ?_
  change wpList _ _ _ _ _ _
  obtain⟨ys,hys⟩:∃ ys,ys=xs++Z3 4:=⟨_,rfl⟩;obtain⟨GA,gc,rfl,_,_⟩:=Za hr3;rw[<-hys] at hr3 ⊢;have hl3:ys.length<=1000020:=by
   have : (Z3 4).length=1:=by rw[Xq (by omega)];rfl
   rw[hys];simp only[l2,this];omega
  have hsz3:base<=w3.heap.size:=lN (by simpa using lN hbase hs1) hb3.size;have hb3':=iD (((hb1.mono hbase).trans (l1 base w1).drew).trans hb3);have hk3':=iD (((Xl.below hb1).trans (Xl.below (l1 _ _).drew)).trans hk3);replace hys:=iD hys;replace hr3:=iD hr3;replace hX3:=iD hX3;clear p0 p1 p2 p36 hb3 hk3 hX hb1 hr1;go_wp2_with fail;refine (Z07 k _ ys base _ (by omega) hr3.out hsz3 (by omega)).mono ?_;rintro e w4 ⟨V,rfl,hr4,hb4,hk4⟩;have hX4:=hk4 _ _ _ hX3.out (by decide);obtain⟨p0,p1,p2,p35,p36⟩:=Qy hX4 hf;have q0:w4.cell? ⟨w.heap.size,0,none⟩=some (.int .i64 1):=p0;have q36:w4.cell? ⟨w.heap.size,36,none⟩=some (B c):=p36;obtain⟨HA,hc,rfl,_,_⟩:=Za hr4;have hb4':=iD (hb3'.out.trans hb4);have hk4':=iD (hk3'.out.trans hk4);have hsz4:base<=w4.heap.size:=lN hsz3 hb4.size;have hkl:=Kf 9 k (by omega);have hl4:(ys++Z3 k).length<=1000040:=by
   simp only[l2];omega
  obtain⟨zs,hzs⟩:∃ zs,zs=ys++Z3 k:=⟨_,rfl⟩;rw[<-hzs] at hr4 hl4 ⊢;replace hr4:=iD hr4;clear p0 p1 p2 p35 p36 hb4 hk4 hX4;replace hzs:=iD hzs;go_wp2_with (at_builtin;refine Yt _ rfl (.tmp 49) (.tmp 52) 57 rfl base 5 (B 0) 1 1 underlying57 Kh (.slice HA zs.length hc) zs.length (zs.map B) rfl (hr4.out.alloc _) (fun _=>True) (some ⟨w4.heap.size,0,none⟩) 1 1 [B c] rfl rfl (Rd.of_blk (cs:=[B c]) (r:=[]) (Blk.new_at rfl) rfl trivial) (Z87 c) (by unfold maxLen;omega) (by omega) (by simp;omega) ?_;intro v4 W4 hrow4 hg4 hv4;replace hrow4:=iD hrow4;replace hg4:=iD hg4;clear hv4;obtain⟨VA,vc,rfl,_,_⟩:=Za hrow4.out;go_frame);go_ret;refine⟨_,rfl,?_,hb4'.out.trans (Yo (hr4.out.alloc _) hg4.out (by simp;omega) |>.mono (lQ _) |> fun h=>(bL |>.mono hsz4).trans h),?_⟩
  ·have h1:=hrow4.out;have h2:xs++(Z3 4++(Z3 k++[c]))=zs++[c]:=by rw[hzs.out,hys.out];simp
   first
    | (rw[h2];simpa using h1)
    | (rw[nA,h2];simpa using h1)
  ·exact hk4'.out.trans ((Xl.below bL).trans (Xl.grown (hr4.out.alloc _) hg4.out))
end
section
open Go.RowKit
section
variable {P:Program} {md:lC} {ops:Array Oper} {Q:Exit->Act->World->Prop}
theorem Zah{S S':World->Prop}(hSS:∀ w,S' w->S w){late:List Nat}:∀ (f:Nat) (listed:Array Bool) (a:Act) (w:World),Kt P md ops Q S' late f listed a w->Kt P md ops Q S late f listed a w
 | 0,_,_,_,h=>h
 | f+1,_,_,_,h=>⟨h.1,fun i hi=>lO (fun a' w' h'=>⟨fun hl=>hSS _ (h'.1 hl),Zah hSS f _ a' w' h'.2⟩) (h.2 i hi)⟩
def Qq(P:Program)(ops:Array Oper)(Q:Exit->Act->World->Prop)(l:List Oper)(last tl:List Nat):List Seg->(World->Prop)->Act->World->Prop
 | [],S,a,w=>wpQuiet P ops S (fun a'=>wpList P ops Q (Z7 l tl) a' w) (Z7 l last) a
 | (ts,m) :: r,S,a,w=>wpQuiet P ops S (fun a'=>∀ K:Act->World->Prop,(∀ (S':World->Prop) a w,(∀ w,S' w->S w)->S' w->Qq P ops Q l last tl r S' a w->K a w)->if lU (Jn l m) (yielded ops a'.tmps)=true then lV P (Jn l m) a' w K Q else K (a'.put (Jn l m).dst undef) w) (Z7 l ts) a
theorem Zai{t0:Nat}{tl sk last:List Nat}{l:List Oper}(hops:ops=l.toArray)(hsel:lG ops=true)(hs:K2 md ops t0 sk=true)(hc:Ju md ops t0 tl=true)(hnt:∀ i ∈ sk,i ∉ t0 :: tl)
  (hlt:∀ i ∈ sk++t0 :: tl,i<ops.size) (hQ:∀ c d v a w,Q (.panic c) (lE a d v) w->Q (.panic c) a w) (hlast:∀ i ∈ last,i ∈ sk) :
  ∀ (segs:List Seg) (S:World->Prop) (listed:Array Bool) (a:Act) (w:World),S w->(∀ i ∈ Xa segs,i ∈ sk)->HeadL md ops (t0 :: tl) listed->Uc md ops last (t0 :: tl) segs listed=true ->
   Qq P ops Q l last (t0 :: tl) segs S a w->Kt P md ops Q S (t0 :: tl) ((Xa segs).length+(last.length+(t0 :: tl).length)) listed a w
 | [],S,listed,a,w,hS,_,inv,hB,h=>by
  simp only[Uc,lB] at hB;have hm1:last.map (ops[·]?)=(Z7 l last).map some:=by rw[hops];exact Km (fun i hi=>by have:=hlt i (lA.2 (.inl (hlast i hi)));rw[hops] at this;simpa using this)
  have hm2:(t0 :: tl).map (ops[·]?)=(Z7 l (t0 :: tl)).map some:=by rw[hops];exact Km (fun i hi=>by have:=hlt i (lA.2 (.inr hi));rw[hops] at this;simpa using this)
  simp only[Xa,lL,lF];exact Ud hsel hs hc hnt hQ hS _ _ last (Z7 l last) listed a hlast hm1 inv hB.1 h (fun a' ha _=>Z02 (t0 :: tl) _ _ a' w (fun _ h=>h) hm2 hB.2 ha)
 | (ts,m) :: r,S,listed,a,w,hS,hin,inv,hB,h=>by
  simp only[Uc,lB,decide_eq_true_eq] at hB;obtain⟨hB1,hB2,hB3⟩:=hB;have hts:∀ i ∈ ts,i ∈ sk:=fun i hi=>hin i (by simp[Xa,hi]);have hm:m ∈ sk:=hin m (by simp[Xa]);have hm1:ts.map (ops[·]?)=(Z7 l ts).map some:=by rw[hops];exact Km (fun i hi=>by have:=hlt i (lA.2 (.inl (hts i hi)));rw[hops] at this;simpa using this)
  have hmo:ops[m]?=some (Jn l m):=by
   have h1:=hlt m (lA.2 (.inl hm));rw[hops] at h1 ⊢;have h2:m<l.length:=by simpa using h1
   rw[Gr l m h2];simp[h2]
  rw[show (Xa ((ts,m) :: r)).length+(last.length+(t0 :: tl).length)=ts.length+(((Xa r).length+(last.length+(t0 :: tl).length))+1) by simp[Xa];omega];refine Ud hsel hs hc hnt hQ hS _ _ ts (Z7 l ts) listed a hts hm1 inv hB1 h (fun a' ha inv'=>?_);refine⟨fun h1=>(by rw[hB2] at h1;cases h1),fun i hi=>?_⟩;have hi0:=hi;rw[hB2] at hi;have hik:i=m:=by simpa using hi
  subst hik;refine lW hmo (fun K hK=>?_);exact ha K (fun S' a' w' hSS hS' hm'=>hK a' w' ⟨fun _=>hSS _ hS',Zah hSS _ _ _ _ (Zai hops hsel hs hc hnt hlt hQ hlast r S' _ a' w' hS' (fun j hj=>hin j (by simp[Xa,hj])) (inv'.set hi0 (hnt i hm)) hB3 hm')⟩)
theorem Zl0{id:Nat}{a:Act}{w:World}{l:List Oper}(S:World->Prop)(segs:List Seg)(last:List Nat)(t0:Nat)(tl:List Nat)(hm:P.follows .mixedOrders=true)(hB:O3 .any l.toArray segs last t0 tl=true)
  (hQ:∀ c d v a w,Q (.panic c) (lE a d v) w->Q (.panic c) a w) (hS:S w.drew) (h:Qq P l.toArray Q l last (t0 :: tl) segs S a w.drew):(lX id l.toArray true).wp P Q a w:=by
 simp only[O3,lB,decide_eq_true_eq] at hB;obtain⟨⟨⟨⟨⟨⟨hsel,hs⟩,hc⟩,hlen⟩,hn1⟩,hlt⟩,hsg⟩:=hB;have hlt':∀ i ∈ (Xa segs++last)++t0 :: tl,i<l.toArray.size:=fun i hi=>by have:=lH.1 hlt i hi;simpa using this
 have inv0:HeadL .any l.toArray (t0 :: tl) (lM l.toArray.size false) :=
  ⟨by simp,fun j oj _ hl=>(by rw[lI] at hl;cases hl),fun t ht=>getD_in (by simpa using hlt' t (lA.2 (.inr ht))) (lI _ _)⟩
 refine lY hm ?_;have:=Oy _ _ _ _ (Zai (md:=.any) (l:=l) (last:=last) rfl hsel hs hc (fun i hi=>by have:=lH.1 hn1 i hi;simpa using this) hlt' hQ (fun i hi=>lA.2 (.inr hi)) segs S _ a w.drew hS (fun i hi=>lA.2 (.inl hi)) inv0 hsg h);rw[show (Xa segs).length+(last.length+(t0 :: tl).length)=l.toArray.size by rw[lZ];exact hlen] at this;exact this
end
end
end Go.Proofs.YtefjlobdifjogaaGreatDoor
