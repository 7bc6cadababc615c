import Derived.OrdersHeld
import Derived.Deep.RegionHeld
import Derived.Test.YtfdimggmljkkbaaGreatDoorP02
open Array renaming replicate → lL
open Bool renaming and_eq_true → lD
open Go renaming getD_replicate_false → lN, wpOp_mono → lO, ready_mono → lQ
open Go.Act renaming put → lG
open Go.Code renaming region → l0
open Go.Oper renaming quietUpon → lE, quietAt → lR
open Go.Region renaming ready → lA, Mode → lC, noSelect → lF, binds → lP, wanted → lW, free → lX, noSelect_spec → lY, free_spec → lZ
open Go.Result renaming andThen_ok → lT, andThen → lV
open Go.Sem renaming run_bind → lS, run_pure → lU
open List renaming mem_append → lB, map_cons → lH, length_nil → lJ, all_eq_true → lM, length_cons → l1
open List.cons renaming injEq → lI
open Nat renaming zero_add → lK
namespace Go.Proofs.YtfdimggmljkkbaaGreatDoor
section
open Go.RowKit
section
variable {P:Program} {md:lC} {ops:Array Oper} {S:World->Prop} {Q:Exit->Act->World->Prop}
def Cls(F:World->Prop):Type:={ x:World // F x }
def Qx(P:Program)(md:lC)(ops:Array Oper)(Q:Exit->Act->World->Prop)(S:World->Prop)(late:List Nat):Nat->Array Bool->Act->World->Prop
 | 0,listed,a,w=>lA md ops listed=[]/\Q .normal a w
 | f+1,listed,a,w=>(lA md ops listed=[]->Q .normal a w) /\
  ∀ i ∈ lA md ops listed,wpOp P ops Q i (fun a' w'=>(i ∉ late->S w')/\Qx P md ops Q S late f (listed.setIfInBounds i true) a' w') a w
theorem Z2o{late:List Nat}:∀ (fuel:Nat) (listed:Array Bool) (a:Act) (w:World),Qx P md ops Q S late fuel listed a w->wpAny P md ops Q fuel listed a w
 | 0,_,_,_,h=>h
 | fuel+1,_,_,_,h=>⟨h.1,fun i hi=>lO (fun a' w' h'=>Z2o fuel _ a' w' h'.2) (h.2 i hi)⟩
theorem Z8y{t0:Nat}{tl hd:List Nat}{i:Nat}{oi:Oper}{v:Value}(hi:ops[i]?=some oi)(hsel:∀ (j:Nat) (o:Oper) cs b,ops[j]?=some o->o.op ≠ .select cs b)
  (hs:Ki md ops t0 hd=true) (hc:K5 md ops t0 tl=true) (hin:i ∈ hd) (hnl:i ∉ t0 :: tl)
  (hQ:∀ c a w,Q (.panic c) (a.put oi.dst v) w->Q (.panic c) a w) :
  ∀ (fuel:Nat) (listed:Array Bool) (a:Act) (w:World),HeadL md ops (t0 :: tl) listed ->
   (∀ j oj,ops[j]?=some oj->j ≠ i->listed.getD j true=false->(∀ e ∈ oj.after,lP md e=true->e.on ≠ i)->oi.apart ops oj=true) ->
   i ∈ lA md ops listed->YieldsIf P ops S oi v a->S w ->
   Qx P md ops Q S (t0 :: tl) fuel (listed.setIfInBounds i true) (a.put oi.dst v) w->Qx P md ops Q S (t0 :: tl) (fuel+1) listed a w:=by
 intro fuel;induction fuel with
 | zero =>
  intro listed a w inv _ hr hy hS H;refine⟨fun h=>(by rw[h] at hr;cases hr),fun j hj=>?_⟩;by_cases hji:j=i
  ·subst hji;exact hy.wpOp hi hS ⟨fun _=>hS,H⟩
  ·have:=lQ hj hji;rw[H.1] at this;cases this
 | succ fuel ih =>
  intro listed a w inv hfree hr hy hS H;have hun:=(mem_ready.1 hr).1;refine⟨fun h=>(by rw[h] at hr;cases hr),fun j hj=>?_⟩;have hjn:j ∉ t0 :: tl:=fun hm=>Z0r hc inv hd hs i hin hun j hm hj;by_cases hji:j=i
  ·subst hji;exact hy.wpOp hi hS ⟨fun _=>hS,H⟩
  ·have h1:=H.2 j (lQ hj hji);obtain⟨hjun,oj,hoj,hall⟩:=mem_ready.1 hj;have hnot:∀ e ∈ oj.after,lP md e=true->e.on ≠ i:=fun e he hb heq=>by
    have h1:=hall e he hb;rw[heq,getD_both hun] at h1;cases h1
   have h2:=wpOp_putIf hoj (hfree j oj hoj hji hjun hnot) (fun cs b=>hsel i oi cs b hi) (fun cs b=>hsel j oj cs b hoj) hQ hy h1;have hfree':∀ k ok,ops[k]?=some ok->k ≠ i->(listed.setIfInBounds j true).getD k true=false ->
     (∀ e ∈ ok.after,lP md e=true->e.on ≠ i)->oi.apart ops ok=true:=fun k ok hk hki hun hno=>by
    refine hfree k ok hk hki ?_ hno;by_cases hjk:j=k
    ·subst hjk;exact hjun
    ·rw[getD_set_ne true hjk] at hun;exact hun
   refine lO (fun a' w' h3=>⟨h3.2.1,ih (listed.setIfInBounds j true) a' w' (inv.set hj hjn) hfree' (lQ hr (Ne.symm hji)) h3.1 (h3.2.1 hjn) ?_⟩) h2;rw[Array.setIfInBounds_comm _ _ hji];exact h3.2.2
def Z02:Op->Bool
 | .load .. | .build .. => true
 | o=>Gw o
theorem Z8z{o:Oper}{a:Act}{v:Value}{C:World->Prop}{w:World}(ho:Z02 o.op=true)(h:o.quietAt P a C w v):(execOp a.eval o).run P w=.ok (.value v) w:=by
 by_cases hp:Gw o.op=true
 ·exact Z82 hp h
 ·have key:∃ x:Sem Value,execOp a.eval o=(do let y <- x;pure (.value y)):=by
   cases hop:o.op
   all_goals rw[hop] at ho hp
   all_goals first
    | (exact⟨_,by unfold execOp;rw[hop]⟩)
    | (exact⟨_,by unfold execOp;rw[hop];rfl⟩)
    | (exact absurd ho (by simpa[Z02] using hp))
    | (exact absurd rfl hp)
  obtain⟨x,hx⟩:=key;unfold lR at h;rw[hx,lS] at h ⊢;cases hr:x.run P w with
  | ok y w' =>
   rw[hr] at h;simp only[lT,lU,lE] at h ⊢;rw[h.1,h.2]
  | halt y w' =>
   rw[hr] at h;simp[lV,lE] at h
def Z13(P:Program)(ops:Array Oper)(Q:Exit->Act->World->Prop)(S:World->Prop)(rest:List Oper):List Oper->Act->World->Prop
 | [],a,w=>wpList P ops Q rest a w
 | o :: r,a,w=>∀ K:Act->World->Prop,(∀ a w,S w->Z13 P ops Q S rest r a w->K a w)->if lW o (yielded ops a.tmps)=true then Oper.wp P o a w K Q else K (a.put o.dst undef) w
theorem Z2p{late:List Nat}:∀ (is:List Nat) (l:List Oper) (listed:Array Bool) (a:Act) (w:World),(∀ i ∈ is,i ∈ late)->is.map (ops[·]?)=l.map some ->
  K6 md ops is listed=true->wpList P ops Q l a w->Qx P md ops Q S late is.length listed a w
 | [],l,_,_,_,_,hl,hB,h=>by
  have : l=[]:=by simpa using hl.symm
  subst this;exact⟨by simpa[K6] using hB,h⟩
 | k :: s,l,listed,a,w,hlate,hl,hB,h=>by
  obtain⟨o,l',rfl⟩:∃ o l',l=o :: l':=by
   cases l with
   | nil=>simp at hl
   | cons o l'=>exact⟨o,l',rfl⟩
  simp only[lH,lI] at hl;simp only[K6,lD,decide_eq_true_eq] at hB;refine⟨fun h1=>(by rw[hB.1] at h1;cases h1),fun i hi=>?_⟩;rw[hB.1] at hi;have hik:i=k:=by simpa using hi
  subst hik;have hw:wpOp P ops Q i (wpList P ops Q l') a w:=by unfold wpOp;simp only[hl.1];exact h
  exact lO (fun a' w' h'=>⟨fun hn=>absurd (hlate i (by simp)) hn,Z2p s l' _ a' w' (fun j hj=>hlate j (by simp[hj])) hl.2 hB.2 h'⟩) hw
def Z2q(md:lC)(ops:Array Oper)(tl:List Nat):List Nat->Array Bool->Bool
 | [],listed=>K6 md ops tl listed
 | k :: s,listed=>decide (lA md ops listed=[k]) && Z2q md ops tl s (listed.setIfInBounds k true)
theorem Z90{late:List Nat}{rest:List Oper}(hrest:late.map (ops[·]?)=rest.map some):∀ (is:List Nat) (l:List Oper) (listed:Array Bool) (a:Act) (w:World),is.map (ops[·]?)=l.map some ->
  Z2q md ops late is listed=true->Z13 P ops Q S rest l a w->Qx P md ops Q S late (is.length+late.length) listed a w
 | [],l,listed,a,w,hl,hB,h=>by
  have : l=[]:=by simpa using hl.symm
  subst this;rw[lJ,lK];exact Z2p late rest listed a w (fun _ h=>h) hrest hB h
 | k :: s,l,listed,a,w,hl,hB,h=>by
  obtain⟨o,l',rfl⟩:∃ o l',l=o :: l':=by
   cases l with
   | nil=>simp at hl
   | cons o l'=>exact⟨o,l',rfl⟩
  simp only[lH,lI] at hl;simp only[Z2q,lD,decide_eq_true_eq] at hB;rw[show (k :: s).length+late.length=(s.length+late.length)+1 by simp;omega];refine⟨fun h1=>(by rw[hB.1] at h1;cases h1),fun i hi=>?_⟩;rw[hB.1] at hi;have hik:i=k:=by simpa using hi
  subst hik;refine wpOp_step hl.1 (fun K hK=>?_);exact h K (fun a' w' hS hm=>hK a' w' ⟨fun _=>hS,Z90 hrest s l' _ a' w' hl.2 hB.2 hm⟩)
def Z2r(md:lC)(ops:Array Oper)(mid tl:List Nat):List Nat->Array Bool->Bool
 | [],listed=>Z2q md ops tl mid listed
 | k :: s,listed=>(lA md ops listed).contains k && lX md ops listed k && ((ops[k]?).map (Z02 ·.op)).getD false && Z2r md ops mid tl s (listed.setIfInBounds k true)
def mixB(md:lC)(ops:Array Oper)(hd mid:List Nat)(t0:Nat)(tl:List Nat):Bool :=
 lF ops && Ki md ops t0 (hd++mid) && K5 md ops t0 tl && (decide (hd.length+(mid.length+(tl.length+1))=ops.size)) && (hd.all fun i=>!(t0 :: tl).contains i) && ((hd++mid++t0 :: tl).all fun i=>decide (i<ops.size)) && Z2r md ops mid (t0 :: tl) hd (lL ops.size false)
theorem Z91{t0:Nat}{tl hd mid:List Nat}{l:List Oper}(hops:ops=l.toArray)(hsel:lF ops=true)(hs:Ki md ops t0 (hd++mid)=true)(hc:K5 md ops t0 tl=true)
  (hnt:∀ i ∈ hd,i ∉ t0 :: tl) (hlt:∀ i ∈ hd++mid++t0 :: tl,i<ops.size) (hQ:∀ c d v a w,Q (.panic c) (lG a d v) w->Q (.panic c) a w) {w:World} (hS:S w) :
  ∀ (is:List Nat) (lp:List Oper) (listed:Array Bool) (a:Act),(∀ i ∈ is,i ∈ hd)->is.map (ops[·]?)=lp.map some->HeadL md ops (t0 :: tl) listed->Z2r md ops mid (t0 :: tl) is listed=true ->
   wpQuiet P ops S (fun a'=>Z13 P ops Q S (Zj l (t0 :: tl)) (Zj l mid) a' w) lp a ->
   Qx P md ops Q S (t0 :: tl) (is.length+(mid.length+(t0 :: tl).length)) listed a w
 | [],lp,listed,a,_,hl,inv,hB,h=>by
  have : lp=[]:=by simpa using hl.symm
  subst this;have hm1:mid.map (ops[·]?)=(Zj l mid).map some:=by rw[hops];exact Qs (fun i hi=>by have:=hlt i (by simp[hi]);rw[hops] at this;simpa using this)
  have hm2:(t0 :: tl).map (ops[·]?)=(Zj l (t0 :: tl)).map some:=by rw[hops];exact Qs (fun i hi=>by have:=hlt i (lB.2 (.inr hi));rw[hops] at this;simpa using this)
  rw[lJ,lK];exact Z90 hm2 mid (Zj l mid) listed a w hm1 hB h
 | k :: s,lp,listed,a,hks,hl,inv,hB,h=>by
  obtain⟨o,l',rfl⟩:∃ o l',lp=o :: l':=by
   cases lp with
   | nil=>simp at hl
   | cons o l'=>exact⟨o,l',rfl⟩
  simp only[lH,lI] at hl;simp only[Z2r,lD] at hB;obtain⟨⟨⟨hr,hf⟩,hp⟩,hB'⟩:=hB;rw[hl.1] at hp;have hp':Z02 o.op=true:=by simpa using hp
  have hst:qOp P ops S k (wpQuiet P ops S (fun a'=>Z13 P ops Q S (Zj l (t0 :: tl)) (Zj l mid) a' w) l') a:=by unfold qOp;simp only[hl.1];exact h
  obtain⟨v,hy,hK⟩:=yieldsIn_of_qOp hl.1 hst;have hy':YieldsIf P ops S o v a:=by
   rcases hy with ⟨hw,hv⟩ | ⟨hw,rfl⟩
   ·exact .inl ⟨hw,fun w hw=>Z8z hp' (hv w hw)⟩
   ·exact .inr ⟨hw,rfl⟩
  have hr':k ∈ lA md ops listed:=by simpa using hr
  rw[show (k :: s).length+(mid.length+(t0 :: tl).length)=(s.length+(mid.length+(t0 :: tl).length))+1 by simp;omega];exact Z8y hl.1 (lY hsel) hs hc (lB.2 (.inl (hks k (by simp)))) (hnt k (hks k (by simp))) (fun c a w h=>hQ c _ _ a w h) _ listed a w inv (lZ hl.1 hf) hr' hy' hS
   (Z91 hops hsel hs hc hnt hlt hQ hS s l' _ _ (fun i hi=>hks i (by simp[hi])) hl.2 (inv.set hr' (hnt k (hks k (by simp)))) hB' hK)
theorem Z14{id:Nat}{a:Act}{w:World}{l:List Oper}(S:World->Prop)(hd mid:List Nat)(t0:Nat)(tl:List Nat)(hm:P.follows .mixedOrders=true)(hB:mixB .any l.toArray hd mid t0 tl=true)
  (hQ:∀ c d v a w,Q (.panic c) (lG a d v) w->Q (.panic c) a w) (hS:S w.drew)
  (h:wpQuiet P l.toArray S (fun a'=>Z13 P l.toArray Q S (Zj l (t0 :: tl)) (Zj l mid) a' w.drew) (Zj l hd) a):(l0 id l.toArray true).wp P Q a w:=by
 simp only[mixB,lD,decide_eq_true_eq] at hB;obtain⟨⟨⟨⟨⟨⟨hsel,hs⟩,hc⟩,hlen⟩,hn1⟩,hlt⟩,htk⟩:=hB;have hlt':∀ i ∈ hd++mid++t0 :: tl,i<l.toArray.size:=fun i hi=>by have:=lM.1 hlt i hi;simpa using this
 have inv0:HeadL .any l.toArray (t0 :: tl) (lL l.toArray.size false) :=
  ⟨by simp,fun j oj _ hl=>(by rw[lN] at hl;cases hl),fun t ht=>getD_in (by simpa using hlt' t (lB.2 (.inr ht))) (lN _ _)⟩
 have hm1:hd.map (l.toArray[·]?)=(Zj l hd).map some:=Qs (fun i hi=>by have:=hlt' i (by simp[hi]);simpa using this);refine wp_region_any hm ?_;have:=Z2o _ _ _ _ (Z91 (md:=.any) (l:=l) (w:=w.drew) rfl hsel hs hc (fun i hi=>by have:=lM.1 hn1 i hi;simpa using this) hlt' hQ hS hd (Zj l hd) _ a (fun _ h=>h) hm1 inv0 htk h);rw[show hd.length+(mid.length+(t0 :: tl).length)=l.toArray.size by rw[l1];exact hlen] at this;exact this
end
end
section
open Go.RowKit
section
variable {P:Program} {md:lC} {ops:Array Oper} {S:World->Prop} {Q:Exit->Act->World->Prop}
def G9:Op->Bool
 | .lookup .. => true
 | .assign _=>true
 | .call c=>match c.callee with
  | .builtin .len=>true
  | _=>false
 | o=>Z02 o
theorem Zfh{o:Oper}{a:Act}{v:Value}{C:World->Prop}{w:World}(ho:G9 o.op=true)(h:o.quietAt P a C w v):(execOp a.eval o).run P w=.ok (.value v) w:=by
 by_cases hp:Z02 o.op=true
 ·exact Z8z hp h
 ·have key:(∃ x:Sem Value,execOp a.eval o=(do let y <- x;pure (.value y))) ∨ (∃ u w',(execOp a.eval o).run P w=.ok (.value u) w'):=by
   cases hop:o.op
   all_goals rw[hop] at ho hp
   case call c =>
    cases hc:c.callee with
    | builtin b =>
     cases b
     all_goals first
      | (exact .inl ⟨_,by unfold execOp;rw[hop];simp only[resolve,hc,pure_bind,invoke,builtin];rfl⟩)
      | (exact absurd ho (by simp[G9,hc]))
    | value f=>exact absurd ho (by simp[G9,hc])
    | invoke r n=>exact absurd ho (by simp[G9,hc])
   all_goals first
    | (exact .inl ⟨_,by unfold execOp;rw[hop]⟩)
    | (exact .inl ⟨_,by unfold execOp;rw[hop];rfl⟩)
    | (exact .inr ⟨_,_,by unfold execOp;rw[hop];rfl⟩)
    | (exact absurd ho (by simpa[G9] using hp))
    | (exact absurd rfl hp)
  rcases key with ⟨x,hx⟩ | ⟨u,w',hu⟩
  ·unfold lR at h;rw[hx,lS] at h ⊢;cases hr:x.run P w with
   | ok y w' =>
    rw[hr] at h;simp only[lT,lU,lE] at h ⊢;rw[h.1,h.2]
   | halt y w' =>
    rw[hr] at h;simp[lV,lE] at h
  ·unfold lR at h;rw[hu] at h ⊢;simp only[lE] at h;rw[h.1,h.2]
def Qy(ts:List Nat)(listed:Array Bool):Array Bool:=ts.foldl (fun l k=>l.setIfInBounds k true) listed
def Ob(md:lC)(ops:Array Oper):List Nat->Array Bool->Bool
 | [],_=>true
 | k :: s,listed=>(lA md ops listed).contains k && lX md ops listed k && ((ops[k]?).map (G9 ·.op)).getD false && Ob md ops s (listed.setIfInBounds k true)
abbrev Seg:=List Nat × Nat
def Z15(md:lC)(ops:Array Oper)(last tl:List Nat):List Seg->Array Bool->Bool
 | [],listed=>Ob md ops last listed && K6 md ops tl (Qy last listed)
 | (ts,m) :: r,listed=>Ob md ops ts listed && (decide (lA md ops (Qy ts listed)=[m]) && Z15 md ops last tl r ((Qy ts listed).setIfInBounds m true))
def Kb:List Seg->List Nat
 | []=>[]
 | (ts,m) :: r=>ts++m :: Kb r
def Jr(P:Program)(ops:Array Oper)(Q:Exit->Act->World->Prop)(S:World->Prop)(l:List Oper)(last tl:List Nat):List Seg->Act->World->Prop
 | [],a,w=>wpQuiet P ops S (fun a'=>wpList P ops Q (Zj l tl) a' w) (Zj l last) a
 | (ts,m) :: r,a,w=>wpQuiet P ops S (fun a'=>∀ K:Act->World->Prop,(∀ a w,S w->Jr P ops Q S l last tl r a w->K a w)->if lW (Kv l m) (yielded ops a'.tmps)=true then Oper.wp P (Kv l m) a' w K Q else K (a'.put (Kv l m).dst undef) w) (Zj l ts) a
theorem Z03{t0:Nat}{tl sk:List Nat}(hsel:lF ops=true)(hs:Ki md ops t0 sk=true)(hc:K5 md ops t0 tl=true)(hnt:∀ i ∈ sk,i ∉ t0 :: tl)
  (hQ:∀ c d v a w,Q (.panic c) (lG a d v) w->Q (.panic c) a w) {w:World} (hS:S w) (X:Act->Prop) (f:Nat) :
  ∀ (is:List Nat) (lp:List Oper) (listed:Array Bool) (a:Act),(∀ i ∈ is,i ∈ sk)->is.map (ops[·]?)=lp.map some->HeadL md ops (t0 :: tl) listed->Ob md ops is listed=true ->
   wpQuiet P ops S X lp a->(∀ a',X a'->HeadL md ops (t0 :: tl) (Qy is listed)->Qx P md ops Q S (t0 :: tl) f (Qy is listed) a' w)->Qx P md ops Q S (t0 :: tl) (is.length+f) listed a w
 | [],lp,listed,a,_,hl,inv,_,h,hX=>by
  have : lp=[]:=by simpa using hl.symm
  subst this;rw[lJ,lK];exact hX a h inv
 | k :: s,lp,listed,a,hks,hl,inv,hB,h,hX=>by
  obtain⟨o,l',rfl⟩:∃ o l',lp=o :: l':=by
   cases lp with
   | nil=>simp at hl
   | cons o l'=>exact⟨o,l',rfl⟩
  simp only[lH,lI] at hl;simp only[Ob,lD] at hB;obtain⟨⟨⟨hr,hf⟩,hp⟩,hB'⟩:=hB;rw[hl.1] at hp;have hp':G9 o.op=true:=by simpa using hp
  have hst:qOp P ops S k (wpQuiet P ops S X l') a:=by unfold qOp;simp only[hl.1];exact h
  obtain⟨v,hy,hK⟩:=yieldsIn_of_qOp hl.1 hst;have hy':YieldsIf P ops S o v a:=by
   rcases hy with ⟨hw,hv⟩ | ⟨hw,rfl⟩
   ·exact .inl ⟨hw,fun w hw=>Zfh hp' (hv w hw)⟩
   ·exact .inr ⟨hw,rfl⟩
  have hr':k ∈ lA md ops listed:=by simpa using hr
  rw[show (k :: s).length+f=(s.length+f)+1 by simp;omega];exact Z8y hl.1 (lY hsel) hs hc (hks k (by simp)) (hnt k (hks k (by simp))) (fun c a w h=>hQ c _ _ a w h) _ listed a w inv (lZ hl.1 hf) hr' hy' hS
   (Z03 hsel hs hc hnt hQ hS X f s l' _ _ (fun i hi=>hks i (by simp[hi])) hl.2 (inv.set hr' (hnt k (hks k (by simp)))) hB' hK hX)
theorem Z92{t0:Nat}{tl sk last:List Nat}{l:List Oper}(hops:ops=l.toArray)(hsel:lF ops=true)(hs:Ki md ops t0 sk=true)(hc:K5 md ops t0 tl=true)(hnt:∀ i ∈ sk,i ∉ t0 :: tl)
  (hlt:∀ i ∈ sk++t0 :: tl,i<ops.size) (hQ:∀ c d v a w,Q (.panic c) (lG a d v) w->Q (.panic c) a w) (hlast:∀ i ∈ last,i ∈ sk) :
  ∀ (segs:List Seg) (listed:Array Bool) (a:Act) (w:World),S w->(∀ i ∈ Kb segs,i ∈ sk)->HeadL md ops (t0 :: tl) listed->Z15 md ops last (t0 :: tl) segs listed=true ->
   Jr P ops Q S l last (t0 :: tl) segs a w->Qx P md ops Q S (t0 :: tl) ((Kb segs).length+(last.length+(t0 :: tl).length)) listed a w
 | [],listed,a,w,hS,_,inv,hB,h=>by
  simp only[Z15,lD] at hB;have hm1:last.map (ops[·]?)=(Zj l last).map some:=by rw[hops];exact Qs (fun i hi=>by have:=hlt i (lB.2 (.inl (hlast i hi)));rw[hops] at this;simpa using this)
  have hm2:(t0 :: tl).map (ops[·]?)=(Zj l (t0 :: tl)).map some:=by rw[hops];exact Qs (fun i hi=>by have:=hlt i (lB.2 (.inr hi));rw[hops] at this;simpa using this)
  simp only[Kb,lJ,lK];exact Z03 hsel hs hc hnt hQ hS _ _ last (Zj l last) listed a hlast hm1 inv hB.1 h (fun a' ha _=>Z2p (t0 :: tl) _ _ a' w (fun _ h=>h) hm2 hB.2 ha)
 | (ts,m) :: r,listed,a,w,hS,hin,inv,hB,h=>by
  simp only[Z15,lD,decide_eq_true_eq] at hB;obtain⟨hB1,hB2,hB3⟩:=hB;have hts:∀ i ∈ ts,i ∈ sk:=fun i hi=>hin i (by simp[Kb,hi]);have hm:m ∈ sk:=hin m (by simp[Kb]);have hm1:ts.map (ops[·]?)=(Zj l ts).map some:=by rw[hops];exact Qs (fun i hi=>by have:=hlt i (lB.2 (.inl (hts i hi)));rw[hops] at this;simpa using this)
  have hmo:ops[m]?=some (Kv l m):=by
   have h1:=hlt m (lB.2 (.inl hm));rw[hops] at h1 ⊢;have h2:m<l.length:=by simpa using h1
   rw[Z2e l m h2];simp[h2]
  rw[show (Kb ((ts,m) :: r)).length+(last.length+(t0 :: tl).length)=ts.length+(((Kb r).length+(last.length+(t0 :: tl).length))+1) by simp[Kb];omega];refine Z03 hsel hs hc hnt hQ hS _ _ ts (Zj l ts) listed a hts hm1 inv hB1 h (fun a' ha inv'=>?_);refine⟨fun h1=>(by rw[hB2] at h1;cases h1),fun i hi=>?_⟩;have hi0:=hi;rw[hB2] at hi;have hik:i=m:=by simpa using hi
  subst hik;refine wpOp_step hmo (fun K hK=>?_);exact ha K (fun a' w' hS' hm'=>hK a' w' ⟨fun _=>hS',Z92 hops hsel hs hc hnt hlt hQ hlast r _ a' w' hS' (fun j hj=>hin j (by simp[Kb,hj])) (inv'.set hi0 (hnt i hm)) hB3 hm'⟩)
def segB(md:lC)(ops:Array Oper)(segs:List Seg)(last:List Nat)(t0:Nat)(tl:List Nat):Bool :=
 lF ops && Ki md ops t0 (Kb segs++last) && K5 md ops t0 tl && (decide ((Kb segs).length+(last.length+(tl.length+1))=ops.size)) && ((Kb segs++last).all fun i=>!(t0 :: tl).contains i) && ((Kb segs++last++t0 :: tl).all fun i=>decide (i<ops.size)) && Z15 md ops last (t0 :: tl) segs (lL ops.size false)
theorem Kk{id:Nat}{a:Act}{w:World}{l:List Oper}(S:World->Prop)(segs:List Seg)(last:List Nat)(t0:Nat)(tl:List Nat)(hm:P.follows .mixedOrders=true)(hB:segB .any l.toArray segs last t0 tl=true)
  (hQ:∀ c d v a w,Q (.panic c) (lG a d v) w->Q (.panic c) a w) (hS:S w.drew) (h:Jr P l.toArray Q S l last (t0 :: tl) segs a w.drew):(l0 id l.toArray true).wp P Q a w:=by
 simp only[segB,lD,decide_eq_true_eq] at hB;obtain⟨⟨⟨⟨⟨⟨hsel,hs⟩,hc⟩,hlen⟩,hn1⟩,hlt⟩,hsg⟩:=hB;have hlt':∀ i ∈ (Kb segs++last)++t0 :: tl,i<l.toArray.size:=fun i hi=>by have:=lM.1 hlt i hi;simpa using this
 have inv0:HeadL .any l.toArray (t0 :: tl) (lL l.toArray.size false) :=
  ⟨by simp,fun j oj _ hl=>(by rw[lN] at hl;cases hl),fun t ht=>getD_in (by simpa using hlt' t (lB.2 (.inr ht))) (lN _ _)⟩
 refine wp_region_any hm ?_;have:=Z2o _ _ _ _ (Z92 (md:=.any) (l:=l) (last:=last) rfl hsel hs hc (fun i hi=>by have:=lM.1 hn1 i hi;simpa using this) hlt' hQ (fun i hi=>lB.2 (.inr hi)) segs _ a w.drew hS (fun i hi=>lB.2 (.inl hi)) inv0 hsg h);rw[show (Kb segs).length+(last.length+(t0 :: tl).length)=l.toArray.size by rw[l1];exact hlen] at this;exact this
end
end
section

end
section

end
end Go.Proofs.YtfdimggmljkkbaaGreatDoor
