import Derived.Test.YtfdimggmljkkbaaGreatDoorP17
open Array renaming replicate → lH
open Bool renaming and_eq_true → lA
open Go renaming wpOp_step → lE, getD_replicate_false → lI
open Go.Region renaming Mode → lC, ready → lF, noSelect → lG
open List renaming mem_append → lB, all_eq_true → lD
namespace Go.Proofs.YtfdimggmljkkbaaGreatDoor
section
open Go.RowKit
inductive Plan where
 | tail (last:List Nat):Plan
 | one (ts:List Nat) (m:Nat) (p:Plan):Plan
 | two (ts:List Nat) (m:Nat) (p:Plan) (m':Nat) (p':Plan):Plan
section
variable {P:Program} {md:lC} {ops:Array Oper} {S:World->Prop} {Q:Exit->Act->World->Prop}
def Jn:Plan->List Nat
 | .tail last=>last
 | .one ts m p=>ts++m :: Jn p
 | .two ts m p _ _=>ts++m :: Jn p
def Gi(sk:List Nat):Plan->Bool
 | .tail last=>last.all fun i=>sk.contains i
 | .one ts m p=>(ts.all fun i=>sk.contains i) && (sk.contains m && Gi sk p)
 | .two ts m p m' p'=>(ts.all fun i=>sk.contains i) && (sk.contains m && (Gi sk p && (sk.contains m' && (Gi sk p' && decide ((Jn p).length=(Jn p').length)))))
def Oo(md:lC)(ops:Array Oper)(tl:List Nat):Plan->Array Bool->Bool
 | .tail last,listed=>Ob md ops last listed && K6 md ops tl (Qy last listed)
 | .one ts m p,listed=>Ob md ops ts listed && (decide (lF md ops (Qy ts listed)=[m]) && Oo md ops tl p ((Qy ts listed).setIfInBounds m true))
 | .two ts m p m' p',listed=>Ob md ops ts listed && (decide (lF md ops (Qy ts listed)=[m,m']) && (Oo md ops tl p ((Qy ts listed).setIfInBounds m true) && Oo md ops tl p' ((Qy ts listed).setIfInBounds m' true)))
def Qj(P:Program)(ops:Array Oper)(Q:Exit->Act->World->Prop)(S:World->Prop)(o:Oper)(X:Act->World->Prop)(a:Act)(w:World):Prop :=
 ∀ K:Act->World->Prop,(∀ a w,S w->X a w->K a w)->if Region.wanted o (yielded ops a.tmps)=true then Oper.wp P o a w K Q else K (a.put o.dst undef) w
def Kz(P:Program)(ops:Array Oper)(Q:Exit->Act->World->Prop)(S:World->Prop)(l:List Oper)(tl:List Nat):Plan->Act->World->Prop
 | .tail last,a,w=>wpQuiet P ops S (fun a'=>wpList P ops Q (Zj l tl) a' w) (Zj l last) a
 | .one ts m p,a,w=>wpQuiet P ops S (fun a'=>Qj P ops Q S (Kv l m) (Kz P ops Q S l tl p) a' w) (Zj l ts) a
 | .two ts m p m' p',a,w=>wpQuiet P ops S (fun a'=>Qj P ops Q S (Kv l m) (Kz P ops Q S l tl p) a' w/\Qj P ops Q S (Kv l m') (Kz P ops Q S l tl p') a' w) (Zj l ts) a
theorem Zkm{t0:Nat}{tl sk:List Nat}{l:List Oper}(hops:ops=l.toArray)(hsel:lG ops=true)(hs:Ki md ops t0 sk=true)(hc:K5 md ops t0 tl=true)(hnt:∀ i ∈ sk,i ∉ t0 :: tl)
  (hlt:∀ i ∈ sk++t0 :: tl,i<ops.size) (hQ:∀ c d v a w,Q (.panic c) (Act.put a d v) w->Q (.panic c) a w) :
  ∀ (p:Plan) (listed:Array Bool) (a:Act) (w:World),S w->Gi sk p=true->HeadL md ops (t0 :: tl) listed->Oo md ops (t0 :: tl) p listed=true ->
   Kz P ops Q S l (t0 :: tl) p a w->Qx P md ops Q S (t0 :: tl) ((Jn p).length+(t0 :: tl).length) listed a w:=by
 have hpick:∀ ts:List Nat,(∀ i ∈ ts,i ∈ sk)->ts.map (ops[·]?)=(Zj l ts).map some:=fun ts hts=>by
  rw[hops];exact Qs (fun i hi=>by have:=hlt i (lB.2 (.inl (hts i hi)));rw[hops] at this;simpa using this)
 have hnth:∀ m,m ∈ sk->ops[m]?=some (Kv l m):=fun m hm=>by
  have h1:=hlt m (lB.2 (.inl hm));rw[hops] at h1 ⊢;have h2:m<l.length:=by simpa using h1
  rw[Z2e l m h2];simp[h2]
 have hall:∀ ts:List Nat,(ts.all fun i=>sk.contains i)=true->∀ i ∈ ts,i ∈ sk:=fun ts h i hi=>by
  have:=lD.1 h i hi;simpa using this
 intro p;induction p with
 | tail last =>
  intro listed a w hS hin inv hB h;simp only[Oo,lA] at hB;have hl:=hall last hin;have hm2:(t0 :: tl).map (ops[·]?)=(Zj l (t0 :: tl)).map some:=by rw[hops];exact Qs (fun i hi=>by have:=hlt i (lB.2 (.inr hi));rw[hops] at this;simpa using this)
  exact Z03 hsel hs hc hnt hQ hS _ _ last (Zj l last) listed a hl (hpick last hl) inv hB.1 h (fun a' ha _=>Z2p (t0 :: tl) _ _ a' w (fun _ h=>h) hm2 hB.2 ha)
 | one ts m p ih =>
  intro listed a w hS hin inv hB h;simp only[Gi,lA] at hin;simp only[Oo,lA,decide_eq_true_eq] at hB;obtain⟨hB1,hB2,hB3⟩:=hB;have hts:=hall ts hin.1;have hm:m ∈ sk:=by simpa using hin.2.1
  rw[show (Jn (.one ts m p)).length+(t0 :: tl).length=ts.length+(((Jn p).length+(t0 :: tl).length)+1) by simp[Jn];omega];refine Z03 hsel hs hc hnt hQ hS _ _ ts (Zj l ts) listed a hts (hpick ts hts) inv hB1 h (fun a' ha inv'=>?_);refine⟨fun h1=>(by rw[hB2] at h1;cases h1),fun i hi=>?_⟩;have hi0:=hi;rw[hB2] at hi;have hik:i=m:=by simpa using hi
  subst hik;refine lE (hnth i hm) (fun K hK=>?_);exact ha K (fun a' w' hS' hm'=>hK a' w' ⟨fun _=>hS',ih _ a' w' hS' hin.2.2 (inv'.set hi0 (hnt i hm)) hB3 hm'⟩)
 | two ts m p m' p' ih ih' =>
  intro listed a w hS hin inv hB h;simp only[Gi,lA,decide_eq_true_eq] at hin;simp only[Oo,lA,decide_eq_true_eq] at hB;obtain⟨hB1,hB2,hB3,hB4⟩:=hB;obtain⟨hi1,hi2,hi3,hi4,hi5,hi6⟩:=hin;have hts:=hall ts hi1;have hm:m ∈ sk:=by simpa using hi2
  have hm':m' ∈ sk:=by simpa using hi4
  rw[show (Jn (.two ts m p m' p')).length+(t0 :: tl).length=ts.length+(((Jn p).length+(t0 :: tl).length)+1) by simp[Jn];omega];refine Z03 hsel hs hc hnt hQ hS _ _ ts (Zj l ts) listed a hts (hpick ts hts) inv hB1 h (fun a' ha inv'=>?_);refine⟨fun h1=>(by rw[hB2] at h1;cases h1),fun i hi=>?_⟩;have hi0:=hi;rw[hB2] at hi;have hik:i=m ∨ i=m':=by simpa using hi
  rcases hik with rfl | rfl
  ·refine lE (hnth i hm) (fun K hK=>?_);exact ha.1 K (fun a' w' hS' hm1=>hK a' w' ⟨fun _=>hS',ih _ a' w' hS' hi3 (inv'.set hi0 (hnt i hm)) hB3 hm1⟩)
  ·refine lE (hnth i hm') (fun K hK=>?_);exact ha.2 K (fun a' w' hS' hm1=>hK a' w' ⟨fun _=>hS',by rw[hi6];exact ih' _ a' w' hS' hi5 (inv'.set hi0 (hnt i hm')) hB4 hm1⟩)
def Zb2(md:lC)(ops:Array Oper)(p:Plan)(t0:Nat)(tl:List Nat):Bool :=
 lG ops && Ki md ops t0 (Jn p) && K5 md ops t0 tl && (decide ((Jn p).length+(tl.length+1)=ops.size)) && ((Jn p).all fun i=>!(t0 :: tl).contains i) && ((Jn p++t0 :: tl).all fun i=>decide (i<ops.size)) && Gi (Jn p) p && Oo md ops (t0 :: tl) p (lH ops.size false)
theorem Ur{id:Nat}{a:Act}{w:World}{l:List Oper}(S:World->Prop)(p:Plan)(t0:Nat)(tl:List Nat)(hm:P.follows .mixedOrders=true)(hB:Zb2 .any l.toArray p t0 tl=true)
  (hQ:∀ c d v a w,Q (.panic c) (Act.put a d v) w->Q (.panic c) a w) (hS:S w.drew) (h:Kz P l.toArray Q S l (t0 :: tl) p a w.drew):(Code.region id l.toArray true).wp P Q a w:=by
 simp only[Zb2,lA,decide_eq_true_eq] at hB;obtain⟨⟨⟨⟨⟨⟨⟨hsel,hs⟩,hc⟩,hlen⟩,hn1⟩,hlt⟩,hin⟩,hsg⟩:=hB;have hlt':∀ i ∈ Jn p++t0 :: tl,i<l.toArray.size:=fun i hi=>by have:=lD.1 hlt i hi;simpa using this
 have inv0:HeadL .any l.toArray (t0 :: tl) (lH l.toArray.size false) :=
  ⟨by simp,fun j oj _ hl=>(by rw[lI] at hl;cases hl),fun t ht=>getD_in (by simpa using hlt' t (lB.2 (.inr ht))) (lI _ _)⟩
 refine wp_region_any hm ?_;have:=Z2o _ _ _ _ (Zkm (md:=.any) (l:=l) (sk:=Jn p) rfl hsel hs hc (fun i hi=>by have:=lD.1 hn1 i hi;simpa using this) hlt' hQ p _ a w.drew hS hin inv0 hsg h);rw[show (Jn p).length+(t0 :: tl).length=l.toArray.size by rw[List.length_cons];exact hlen] at this;exact this
end
end
section

end
section

end
section
open Go.RowKit
theorem Zko(A:Option Addr)(n c:Nat)(w:World):(Instr.buildSlice 237 1 #[(0,.slice A n c)]).run Tryz.prog w=.ok (.slice (some ⟨w.heap.size,0,none⟩) 1 1) (w.alloc (.cells #[.slice A n c] 37)):=by kernel_rfl
end
section

end
section
open Go.RowKit Go.Shelf
attribute [local go_sem] Oper.semAt_some
end
section

end
section

end
end Go.Proofs.YtfdimggmljkkbaaGreatDoor
