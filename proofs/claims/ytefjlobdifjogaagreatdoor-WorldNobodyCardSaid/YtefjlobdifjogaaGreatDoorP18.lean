import Derived.Test.YtefjlobdifjogaaGreatDoorP17
open Array renaming replicate → lN
open Bool renaming and_eq_true → lE
open Go renaming wpQuiet_nil → lA, wpOp_step → lM, run_underlying → lS, wp_region_lit → lW, getD_replicate_false → l6
open Go.Instr renaming sliceAt → nC
open Go.Lit renaming int → l3
open Go.NoPanic renaming normal → lD
open Go.Op renaming slice → lB
open Go.Proofs.Tryz renaming prog → lC
open Go.Region renaming wanted → lG, Mode → lK, ready → l4, noSelect → l5
open Go.Result renaming andThen_ok → lQ
open Go.RowKit.Below renaming refl → lJ
open Go.Sem renaming run_bind → lP, run_pure → lR
open Go.Value renaming oneCell' → nB
open Go.World renaming alloc → lI, setRow → lV, setCell → lX
open List renaming mem_append → lH, all_eq_true → lL, length_append → lT, drop_left' → lU, mem_cons → lY, not_mem_nil → lZ, mem_of_mem_take → l0, length_cons → l7, length_nil → l9, append_assoc → nA
open Nat renaming le_refl → lF
open Option renaming map_none → lO, map_some → l8
namespace Go.Proofs.YtefjlobdifjogaaGreatDoor
section
open Go.RowKit
inductive Plan where
 | tail (last:List Nat):Plan
 | one (ts:List Nat) (m:Nat) (p:Plan):Plan
 | two (ts:List Nat) (m:Nat) (p:Plan) (m':Nat) (p':Plan):Plan
section
variable {P:Program} {md:lK} {ops:Array Oper} {S:World->Prop} {Q:Exit->Act->World->Prop}
def Jm:Plan->List Nat
 | .tail last=>last
 | .one ts m p=>ts++m :: Jm p
 | .two ts m p _ _=>ts++m :: Jm p
def Of(sk:List Nat):Plan->Bool
 | .tail last=>last.all fun i=>sk.contains i
 | .one ts m p=>(ts.all fun i=>sk.contains i) && (sk.contains m && Of sk p)
 | .two ts m p m' p'=>(ts.all fun i=>sk.contains i) && (sk.contains m && (Of sk p && (sk.contains m' && (Of sk p' && decide ((Jm p).length=(Jm p').length)))))
def Uq(md:lK)(ops:Array Oper)(tl:List Nat):Plan->Array Bool->Bool
 | .tail last,listed=>Ub md ops last listed && K3 md ops tl (Qi last listed)
 | .one ts m p,listed=>Ub md ops ts listed && (decide (l4 md ops (Qi ts listed)=[m]) && Uq md ops tl p ((Qi ts listed).setIfInBounds m true))
 | .two ts m p m' p',listed=>Ub md ops ts listed && (decide (l4 md ops (Qi ts listed)=[m,m']) && (Uq md ops tl p ((Qi ts listed).setIfInBounds m true) && Uq md ops tl p' ((Qi ts listed).setIfInBounds m' true)))
def Ur(P:Program)(ops:Array Oper)(Q:Exit->Act->World->Prop)(S:World->Prop)(o:Oper)(X:Act->World->Prop)(a:Act)(w:World):Prop :=
 ∀ K:Act->World->Prop,(∀ a w,S w->X a w->K a w)->if lG o (yielded ops a.tmps)=true then Oper.wp P o a w K Q else K (a.put o.dst undef) w
def Vg(P:Program)(ops:Array Oper)(Q:Exit->Act->World->Prop)(S:World->Prop)(l:List Oper)(tl:List Nat):Plan->Act->World->Prop
 | .tail last,a,w=>wpQuiet P ops S (fun a'=>wpList P ops Q (Z7 l tl) a' w) (Z7 l last) a
 | .one ts m p,a,w=>wpQuiet P ops S (fun a'=>Ur P ops Q S (Jn l m) (Vg P ops Q S l tl p) a' w) (Z7 l ts) a
 | .two ts m p m' p',a,w=>wpQuiet P ops S (fun a'=>Ur P ops Q S (Jn l m) (Vg P ops Q S l tl p) a' w/\Ur P ops Q S (Jn l m') (Vg P ops Q S l tl p') a' w) (Z7 l ts) a
theorem Zkt{t0:Nat}{tl sk:List Nat}{l:List Oper}(hops:ops=l.toArray)(hsel:l5 ops=true)(hs:K2 md ops t0 sk=true)(hc:Ju md ops t0 tl=true)(hnt:∀ i ∈ sk,i ∉ t0 :: tl)
  (hlt:∀ i ∈ sk++t0 :: tl,i<ops.size) (hQ:∀ c d v a w,Q (.panic c) (Act.put a d v) w->Q (.panic c) a w) :
  ∀ (p:Plan) (listed:Array Bool) (a:Act) (w:World),S w->Of sk p=true->HeadL md ops (t0 :: tl) listed->Uq md ops (t0 :: tl) p listed=true ->
   Vg P ops Q S l (t0 :: tl) p a w->Kt P md ops Q S (t0 :: tl) ((Jm p).length+(t0 :: tl).length) listed a w:=by
 have hpick:∀ ts:List Nat,(∀ i ∈ ts,i ∈ sk)->ts.map (ops[·]?)=(Z7 l ts).map some:=fun ts hts=>by
  rw[hops];exact Km (fun i hi=>by have:=hlt i (lH.2 (.inl (hts i hi)));rw[hops] at this;simpa using this)
 have hnth:∀ m,m ∈ sk->ops[m]?=some (Jn l m):=fun m hm=>by
  have h1:=hlt m (lH.2 (.inl hm));rw[hops] at h1 ⊢;have h2:m<l.length:=by simpa using h1
  rw[Gr l m h2];simp[h2]
 have hall:∀ ts:List Nat,(ts.all fun i=>sk.contains i)=true->∀ i ∈ ts,i ∈ sk:=fun ts h i hi=>by
  have:=lL.1 h i hi;simpa using this
 intro p;induction p with
 | tail last =>
  intro listed a w hS hin inv hB h;simp only[Uq,lE] at hB;have hl:=hall last hin;have hm2:(t0 :: tl).map (ops[·]?)=(Z7 l (t0 :: tl)).map some:=by rw[hops];exact Km (fun i hi=>by have:=hlt i (lH.2 (.inr hi));rw[hops] at this;simpa using this)
  exact Ud hsel hs hc hnt hQ hS _ _ last (Z7 l last) listed a hl (hpick last hl) inv hB.1 h (fun a' ha _=>Z02 (t0 :: tl) _ _ a' w (fun _ h=>h) hm2 hB.2 ha)
 | one ts m p ih =>
  intro listed a w hS hin inv hB h;simp only[Of,lE] at hin;simp only[Uq,lE,decide_eq_true_eq] at hB;obtain⟨hB1,hB2,hB3⟩:=hB;have hts:=hall ts hin.1;have hm:m ∈ sk:=by simpa using hin.2.1
  rw[show (Jm (.one ts m p)).length+(t0 :: tl).length=ts.length+(((Jm p).length+(t0 :: tl).length)+1) by simp[Jm];omega];refine Ud hsel hs hc hnt hQ hS _ _ ts (Z7 l ts) listed a hts (hpick ts hts) inv hB1 h (fun a' ha inv'=>?_);refine⟨fun h1=>(by rw[hB2] at h1;cases h1),fun i hi=>?_⟩;have hi0:=hi;rw[hB2] at hi;have hik:i=m:=by simpa using hi
  subst hik;refine lM (hnth i hm) (fun K hK=>?_);exact ha K (fun a' w' hS' hm'=>hK a' w' ⟨fun _=>hS',ih _ a' w' hS' hin.2.2 (inv'.set hi0 (hnt i hm)) hB3 hm'⟩)
 | two ts m p m' p' ih ih' =>
  intro listed a w hS hin inv hB h;simp only[Of,lE,decide_eq_true_eq] at hin;simp only[Uq,lE,decide_eq_true_eq] at hB;obtain⟨hB1,hB2,hB3,hB4⟩:=hB;obtain⟨hi1,hi2,hi3,hi4,hi5,hi6⟩:=hin;have hts:=hall ts hi1;have hm:m ∈ sk:=by simpa using hi2
  have hm':m' ∈ sk:=by simpa using hi4
  rw[show (Jm (.two ts m p m' p')).length+(t0 :: tl).length=ts.length+(((Jm p).length+(t0 :: tl).length)+1) by simp[Jm];omega];refine Ud hsel hs hc hnt hQ hS _ _ ts (Z7 l ts) listed a hts (hpick ts hts) inv hB1 h (fun a' ha inv'=>?_);refine⟨fun h1=>(by rw[hB2] at h1;cases h1),fun i hi=>?_⟩;have hi0:=hi;rw[hB2] at hi;have hik:i=m ∨ i=m':=by simpa using hi
  rcases hik with rfl | rfl
  ·refine lM (hnth i hm) (fun K hK=>?_);exact ha.1 K (fun a' w' hS' hm1=>hK a' w' ⟨fun _=>hS',ih _ a' w' hS' hi3 (inv'.set hi0 (hnt i hm)) hB3 hm1⟩)
  ·refine lM (hnth i hm') (fun K hK=>?_);exact ha.2 K (fun a' w' hS' hm1=>hK a' w' ⟨fun _=>hS',by rw[hi6];exact ih' _ a' w' hS' hi5 (inv'.set hi0 (hnt i hm')) hB4 hm1⟩)
def Zaa(md:lK)(ops:Array Oper)(p:Plan)(t0:Nat)(tl:List Nat):Bool :=
 l5 ops && K2 md ops t0 (Jm p) && Ju md ops t0 tl && (decide ((Jm p).length+(tl.length+1)=ops.size)) && ((Jm p).all fun i=>!(t0 :: tl).contains i) && ((Jm p++t0 :: tl).all fun i=>decide (i<ops.size)) && Of (Jm p) p && Uq md ops (t0 :: tl) p (lN ops.size false)
theorem Z0t{id:Nat}{a:Act}{w:World}{l:List Oper}(S:World->Prop)(p:Plan)(t0:Nat)(tl:List Nat)(hm:P.follows .mixedOrders=true)(hB:Zaa .any l.toArray p t0 tl=true)
  (hQ:∀ c d v a w,Q (.panic c) (Act.put a d v) w->Q (.panic c) a w) (hS:S w.drew) (h:Vg P l.toArray Q S l (t0 :: tl) p a w.drew):(Code.region id l.toArray true).wp P Q a w:=by
 simp only[Zaa,lE,decide_eq_true_eq] at hB;obtain⟨⟨⟨⟨⟨⟨⟨hsel,hs⟩,hc⟩,hlen⟩,hn1⟩,hlt⟩,hin⟩,hsg⟩:=hB;have hlt':∀ i ∈ Jm p++t0 :: tl,i<l.toArray.size:=fun i hi=>by have:=lL.1 hlt i hi;simpa using this
 have inv0:HeadL .any l.toArray (t0 :: tl) (lN l.toArray.size false) :=
  ⟨by simp,fun j oj _ hl=>(by rw[l6] at hl;cases hl),fun t ht=>getD_in (by simpa using hlt' t (lH.2 (.inr ht))) (l6 _ _)⟩
 refine wp_region_any hm ?_;have:=Oy _ _ _ _ (Zkt (md:=.any) (l:=l) (sk:=Jm p) rfl hsel hs hc (fun i hi=>by have:=lL.1 hn1 i hi;simpa using this) hlt' hQ p _ a w.drew hS hin inv0 hsg h);rw[show (Jm p).length+(t0 :: tl).length=l.toArray.size by rw[l7];exact hlen] at this;exact this
end
end
section
set_option maxRecDepth 100000
set_option maxHeartbeats 16000000
open Go.Lib renaming hid → iD
open Go.Proofs.Tryz
open Go.RowKit
theorem Xv(w:World){o:Oper}{a:Act}{x hi:Operand}(ho:o.op=.slice 9 x none (some hi) none)(t u:Str)(k:Nat)(hx:a.eval x=.string ⟨t.toArray⟩)(hh:a.eval hi=.int .i64 (k:Int))(hk:k<=t.length)(hu:t.take k=u) :
  (execOp a.eval o).run lC w=.ok (.value (.string ⟨u.toArray⟩)) w:=by
 subst hu;simp only[execOp,ho,hx,hh,l8,lO,lP,Z8a w t k hk,lQ,lR]
theorem Jb(w:World){o:Oper}{a:Act}{x lo:Operand}(ho:o.op=.slice 9 x (some lo) none none)(t u:Str)(k:Nat)(hx:a.eval x=.string ⟨t.toArray⟩)(hh:a.eval lo=.int .i64 (k:Int))(hk:k<=t.length)(hu:t.drop k=u) :
  (execOp a.eval o).run lC w=.ok (.value (.string ⟨u.toArray⟩)) w:=by
 subst hu;simp only[execOp,ho,hx,hh,l8,lO,lP,Zfc w t k hk,lQ,lR]
theorem Ji(w:World){ops:Array Oper}{o:Oper}{a:Act}{K:Act->World->Prop}{Q:Exit->Act->World->Prop}{E:Prop}{ok:Nat->Prop}(hgd:o.guard=none)(ty:TypeId)(x:Operand)(ho:o.op=.load ty x)
  (g:Nat) (hx:a.eval x=.pointer (some ⟨g,0,none⟩)) (ds:Str) (hr:Rd w ok (some ⟨g,0,none⟩) (ds.map B)) (hl:ds.length=32) (hty:ty=59) (h:K (a.put o.dst (.agg (ds.map B).toArray)) w) :
  if lG o (yielded ops a.tmps)=true then Oper.wp lC o a w K Q else E:=by
 subst hty;have hw:lG o (yielded ops a.tmps)=true:=by simp[lG,hgd]
 rw[if_pos hw];obtain⟨b,i,he,_,_,hc⟩:=hr.at (by rw[List.length_map];omega)
 injection he with he
 injection he with e1 e2
 subst e1;subst e2;refine wp_load_mid _ x ho g 0 hx (ds.map B) _ (fun j v hv=>?_) underlying59 rfl (Zg hl) h;have:=hc j v hv;first | exact this | (rw[Jk];exact this) | simpa using this
theorem Zab(s:ByteArray)(w:World):(Instr.buildSlice 169 1 #[(0,.string s)]).run lC w=.ok (.slice (some ⟨w.heap.size,0,none⟩) 1 1) (w.alloc (.cells #[.string s] 9)):=by kernel_rfl
theorem Zac:InfoOf lC 9 (.string ⟨#[]⟩) 1 16:=⟨by kernel_rfl,rfl,by omega⟩
theorem Zku(p q:Addr)(w:World) :
  CallsD lC 206 #[.pointer (some p),.pointer (some q)] .returning w fun e u' w'=>e=.returned (.tuple #[])/\u'=.returning/\w'=w:=by
 refine callsD_of_wpS func206 rfl fun c₀ cs hu=>?_;apply wpS_seq;apply wpS_region;simp[wpOpsS,go_sem,recoverD,hu,ntmps206,Exit.thenS];apply wpS_seq;apply wpS_region;simp[wpOpsS,go_sem,Exit.thenS];refine wpS_cond (t:=false) (by simp[Act.eval,lN]) ?_;simp only[Bool.false_eq_true,if_false];refine wpS_of_wp (wp_skip ?_);cases c₀
 simp_all [bodyPostS,results,Tryz.results206]
theorem Zkv{fn:Func}{p q:Tmp}{ty ty2 e:TypeId}(h:fn.results=#[.cell p ty,.cell q ty2])(tmps:Array Value)(P:Program)(w:World)(g1 g2:Nat)(t1 t2:TypeId)(v1 v2:Value)(q2:IntKind)
  (hp:tmps.getD p undef=.pointer (some ⟨g1,0,none⟩)) (hq:tmps.getD q undef=.pointer (some ⟨g2,0,none⟩)) (h1:Blk w g1 t1 [v1]) (h2:Blk w g2 t2 [v2]) (hu1:P.underlying ty=some (.slice e)) (hu2:P.underlying ty2=some (.int q2)) :
  (results fn tmps).run P w=.ok (.tuple #[v1,v2]) w:=by
 have e1:(asAddr (.pointer (some ⟨g1,0,none⟩))).run P w=.ok (⟨g1,0,none⟩:Addr) w:=by simp[asAddr]
 have e2:(asAddr (.pointer (some ⟨g2,0,none⟩))).run P w=.ok (⟨g2,0,none⟩:Addr) w:=by simp[asAddr]
 have c1:w.cell? ⟨g1,0,none⟩=some v1:=h1.cell 0;have c2:w.cell? ⟨g2,0,none⟩=some v2:=h2.cell 0;have l1:(loadVar ty ⟨g1,0,none⟩).run P w=.ok v1 w:=by
  simp[loadVar,isAgg,lS hu1,go_sem,c1]
 have l2:(loadVar ty2 ⟨g2,0,none⟩).run P w=.ok v2 w:=by
  simp[loadVar,isAgg,lS hu2,go_sem,c2]
 have hp':tmps[p]?.getD undef=.pointer (some ⟨g1,0,none⟩):=by simpa using hp
 have hq':tmps[q]?.getD undef=.pointer (some ⟨g2,0,none⟩):=by simpa using hq
 simp[results,h,hp',hq',e1,e2,l1,l2]
theorem Z5a{xs:Str}(hx:xs.length<=131072):(Xu xs).length<=131200/\37<=(Xu xs).length:=by
 have h1:=Jr (n:=xs.length) (by (have : (128:Nat) ^ 9=9223372036854775808:=by decide);omega);have h2:(Z3 1).length=1:=by rw[Xq (by decide)];rfl
 have h3:(Z3 0).length=1:=by rw[Xq (by decide)];rfl
 simp only[Xu,Up,Zr,lT,h2,h3,J2,l7,l9];omega
theorem Zkw(xs:Str)(hx:xs.length<=131072)(w:World)(hK:Zm w) :
  Calls lC 126 #[.string ⟨(Xb xs).toArray⟩] w fun e w'=>∃ A c,e=.returned (.tuple #[.slice A 1 c,.int .i64 0])/\w'.ownsRow w.heap.size 9 1 (.slice A 1 c) 1 [.string ⟨xs.toArray⟩]/\Below w.heap.size w w':=by
 have hmf:∀ (fn:Fn) (first cap:Array Value) (w:World),(Instr.makeFunc fn first cap).run lC w=.ok (.func fn first cap) w:=fun _ _ _ _=>rfl;obtain⟨bo,hbo⟩:∃ bo,bo=Xu xs:=⟨_,rfl⟩;obtain⟨hbl,hbl2⟩:bo.length<=131200/\37<=bo.length:=by rw[hbo];exact Z5a hx
 obtain⟨dg,hdg⟩:∃ dg,dg=Y6 bo:=⟨_,rfl⟩;have hdgl:dg.length=32:=by rw[hdg];exact J2 bo
 obtain⟨hh,hhh⟩:∃ hh,hh=Y6 bo:=⟨_,rfl⟩;have hhl:hh.length=32:=by rw[hhh];exact J2 bo
 have hpe:Xb xs=bo++dg:=by rw[hdg,hbo];rfl
 have hne:Hid ((!(hh == dg))=false):=iD (by rw[hhh,hdg];simp);obtain⟨p,hp⟩:∃ p,p=Xb xs:=⟨_,rfl⟩;have hpl:p.length=bo.length+32:=by rw[hp,hpe,lT,hdgl]
 have hle1:bo.length<=p.length:=by omega
 have htk:Hid (p.take bo.length=bo):=iD (by rw[hp,hpe];exact List.take_left' rfl);have hdr:Hid (p.drop bo.length=dg):=iD (by rw[hp,hpe];exact lU rfl);have hr3:bo.drop 3=Z3 1++(Y6 xs++(Z3 0++(Zr xs++[]))):=by
  rw[hbo];unfold Xu Up;simp only[nA,List.append_nil];exact lU rfl
 have hr4:bo.drop 4=Y6 xs++(Z3 0++(Zr xs++[])):=by
  have h1:(Z3 1).length=1:=by rw[Xq (by decide)];rfl
  rw[show (4:Nat)=3+1 by rfl,<-List.drop_drop,hr3,lU h1]
 have hsz:(⟨p.toArray⟩:ByteArray).size=p.length:=Jw p;have hlen:((p.length:Int) - 32)=(bo.length:Int):=by omega
 have hx0:Hid ((decide ((bo.length:Int)+32<3) || !(((⟨p.toArray⟩:ByteArray).extract 0 3).toList == [82,80,49]))=false):=iD (by
  rw[Z89,show p.take 3=[82,80,49] by rw[hp,hpe,hbo];rfl];have : decide ((bo.length:Int)+32<3)=false:=by simp;omega
  rw[this,toL];rfl)
 have hrf:=iD Z2r;have hKb:=iD (fun W (hb:Below w.heap.size w W)=>keys_below hK hb);rw[<-hp];replace hhh:=iD hhh;replace hbo:=iD hbo;clear hpe hp hdg;clear hK;replace hr3:=iD hr3;replace hr4:=iD hr4;go_enter_defers func126,ntmps126;go_wp2_with fail;generalize hW1:lI (lI w _) _=w1;have hL1:Blk w1 w.heap.size 169 [Z0]:=by rw[<-hW1];exact (Blk.new_at (cs:=[Z0]) rfl).alloc _
 have hE1:Blk w1 (w.heap.size+1) 23 [.int .i64 0]:=by rw[<-hW1];exact Blk.new_at (cs:=[.int .i64 0]) (by simp)
 have hb1:Below w.heap.size w w1:=by rw[<-hW1];exact bL.alloc (by simp) _
 clear hW1;replace hL1:=iD hL1;replace hE1:=iD hE1;replace hb1:=iD hb1;rw[show decide ((1048576:Int)<(bo.length:Int)+32)=false by simp;omega];refine (hrf.out _ _).mono ?_;rintro e wz ⟨rfl,hwz⟩;rw[hwz];clear hwz wz;go_wp2_with fail;rw[hx0.out];refine (hrf.out _ _).mono ?_;rintro e wz ⟨rfl,hwz⟩;rw[hwz];clear hwz wz;go_wp2_with fail;rw[show decide ((bo.length:Int)<3)=false by simp;omega];refine (hrf.out _ _).mono ?_;rintro e wz ⟨rfl,hwz⟩;rw[hwz];clear hwz wz;go_upto_region 6 with fail;have hsum:=iD (fun A c W (hb:Below w1.heap.size w1 W) (hr:Rd W (· < W.heap.size) A (bo.map B)/\bo.length<=c)=>Ql bo A c W hr.1 hr.2 (by omega) (hKb.out W (hb1.out.trans (hb.mono hb1.out.size))));rw[<-hhh.out] at hsum;go_cut [4] from 31 to 43 (fun e wx=>e=.int .i64 (bo.length:Int)/\Below w1.heap.size w1 wx)
 case first =>
  refine wp_region_noPanic ?_;obtain⟨PS,hPS⟩:∃ PS:World->Prop,∀ y,PS y ↔ Below w1.heap.size w1 y:=⟨_,fun _=>Iff.rfl⟩;have hB0:Below w1.heap.size w1 w1.drew:=(lJ _ _).drew;have s4:PS w1.drew:=(hPS _).2 hB0;haveI : Nonempty (Cls PS):=⟨⟨_,s4⟩⟩;replace hPS:=iD hPS;refine Z0t (fun w'=>∃ y:Cls PS,w'=y.1) (.two [0,1,2,5,6,7] 3 (.two [] 4 (.one [] 8 (.one [] 9 (.one [] 10 (.tail [11])))) 8 (.two [] 4 (.one [] 9 (.one [] 10 (.tail [11]))) 9 (.two [] 4 (.one [] 10 (.tail [11])) 10 (.one [] 4 (.tail [11]))))) 8 (.two [] 3 (.two [] 4 (.one [] 9 (.one [] 10 (.tail [11]))) 9 (.two [] 4 (.one [] 10 (.tail [11])) 10 (.one [] 4 (.tail [11])))) 9 (.two [] 3 (.two [] 4 (.one [] 10 (.tail [11])) 10 (.one [] 4 (.tail [11]))) 10 (.one [] 3 (.one [] 4 (.tail [11])))))) 12 [] (by kernel_rfl) (by kernel_rfl) (fun _ _ _ _ _ h=>h) ⟨⟨_,s4⟩,rfl⟩ ?_;simp only[Vg,Ur,Z7,List.map_cons,List.map_nil,Zo,Zn];repeat (first | (refine Zc (lB 9 (.tmp 31) none (some (.tmp 32)) none) rfl rfl (.string ⟨bo.toArray⟩) (fun w' _=>Xv w' rfl p bo bo.length rfl rfl hle1 htk.out) ?_;go_frame) | (refine Zc (lB 9 (.tmp 36) (some (.tmp 37)) none none) rfl rfl (.string ⟨dg.toArray⟩) (fun w' _=>Jb w' rfl p dg bo.length rfl rfl hle1 hdr.out) ?_;go_frame) | (refine Zc (.binOp .neq 59 (.tmp 35) (.tmp 41) 59) rfl rfl (.bool false) (fun w' _=>(Xx w' rfl hh dg rfl rfl hhl hdgl).trans (by rw[hne.out])) ?_;go_frame) | go_big_quiet_step (fail))
  refine lA ?_;refine⟨?_,?_⟩
  ·skip
   intro K hK;refine Js _ rfl (.tmp 33) rfl bo rfl ?_;intro y1 c1 hb1 hlt1 hc1 hr1;have hB1:Below w1.heap.size w1 y1:=hB0.trans (hb1.mono hB0.size);refine hK _ _ ⟨⟨_,(hPS.out _).2 hB1⟩,rfl⟩ ?_;clear hK;refine lA ?_;refine⟨?_,?_⟩
   ·skip
    intro K hK;go_simp;refine (hsum.out _ _ _ hB1 ⟨hr1.weak (fun _ h _=>h),hc1⟩).mono ?_;rintro e y2 ⟨rfl,hb2⟩;have hB2:Below w1.heap.size w1 y2:=hB1.trans (hb2.mono hB1.size);refine hK _ _ ⟨⟨_,(hPS.out _).2 hB2⟩,rfl⟩ ?_;clear hK;refine lA ?_;intro K hK;refine Js _ rfl (.tmp 38) rfl dg rfl ?_;intro y3 c3 hb3 hlt3 hc3 hr3;rw[hdgl];have hB3:Below w1.heap.size w1 y3:=hB2.trans (hb3.mono hB2.size);refine hK _ _ ⟨⟨_,(hPS.out _).2 hB3⟩,rfl⟩ ?_;clear hK;refine lA ?_;intro K hK;refine J0 _ _ rfl _ (Ku _ rfl ⟨y2.heap.size,0,none⟩ _ rfl) ?_;refine hK _ _ ⟨⟨_,(hPS.out _).2 hB3⟩,rfl⟩ ?_;clear hK;refine lA ?_;intro K hK;refine Ji _ rfl 59 (.tmp 40) rfl y2.heap.size rfl dg hr3 hdgl rfl ?_;refine hK _ _ ⟨⟨_,(hPS.out _).2 hB3⟩,rfl⟩ ?_;clear hK;repeat (first | (refine Zc (lB 9 (.tmp 31) none (some (.tmp 32)) none) rfl rfl (.string ⟨bo.toArray⟩) (fun w' _=>Xv w' rfl p bo bo.length rfl rfl hle1 htk.out) ?_;go_frame) | (refine Zc (lB 9 (.tmp 36) (some (.tmp 37)) none none) rfl rfl (.string ⟨dg.toArray⟩) (fun w' _=>Jb w' rfl p dg bo.length rfl rfl hle1 hdr.out) ?_;go_frame) | (refine Zc (.binOp .neq 59 (.tmp 35) (.tmp 41) 59) rfl rfl (.bool false) (fun w' _=>(Xx w' rfl hh dg rfl rfl hhl hdgl).trans (by rw[hne.out])) ?_;go_frame) | go_big_quiet_step (fail))
    refine lA ?_
    change wpList _ _ _ _ _ y3
    go_wp2_with fail;refine (hrf.out _ _).mono ?_;rintro e wz ⟨rfl,hwz⟩;rw[hwz];clear hwz wz;go_wp2_with fail;refine lD ?_;go_wp2_with fail;go_meet;exact⟨rfl,hB3⟩
   ·skip
    intro K hK;refine Js _ rfl (.tmp 38) rfl dg rfl ?_;intro y6 c6 hb6 hlt6 hc6 hr6;rw[hdgl];have hB6:Below w1.heap.size w1 y6:=hB1.trans (hb6.mono hB1.size);have hrA6:=hr1.stayB hb6;refine hK _ _ ⟨⟨_,(hPS.out _).2 hB6⟩,rfl⟩ ?_;clear hK;refine lA ?_;refine⟨?_,?_⟩
    ·skip
     intro K hK;go_simp;refine (hsum.out _ _ _ hB6 ⟨hrA6.weak (fun _ h _=>h),hc1⟩).mono ?_;rintro e y7 ⟨rfl,hb7⟩;have hB7:Below w1.heap.size w1 y7:=hB6.trans (hb7.mono hB6.size);have hrB7:=hr6.stayB hb7;refine hK _ _ ⟨⟨_,(hPS.out _).2 hB7⟩,rfl⟩ ?_;clear hK;refine lA ?_;intro K hK;refine J0 _ _ rfl _ (Ku _ rfl ⟨y1.heap.size,0,none⟩ _ rfl) ?_;refine hK _ _ ⟨⟨_,(hPS.out _).2 hB7⟩,rfl⟩ ?_;clear hK;refine lA ?_;intro K hK;refine Ji _ rfl 59 (.tmp 40) rfl y1.heap.size rfl dg hrB7 hdgl rfl ?_;refine hK _ _ ⟨⟨_,(hPS.out _).2 hB7⟩,rfl⟩ ?_;clear hK;repeat (first | (refine Zc (lB 9 (.tmp 31) none (some (.tmp 32)) none) rfl rfl (.string ⟨bo.toArray⟩) (fun w' _=>Xv w' rfl p bo bo.length rfl rfl hle1 htk.out) ?_;go_frame) | (refine Zc (lB 9 (.tmp 36) (some (.tmp 37)) none none) rfl rfl (.string ⟨dg.toArray⟩) (fun w' _=>Jb w' rfl p dg bo.length rfl rfl hle1 hdr.out) ?_;go_frame) | (refine Zc (.binOp .neq 59 (.tmp 35) (.tmp 41) 59) rfl rfl (.bool false) (fun w' _=>(Xx w' rfl hh dg rfl rfl hhl hdgl).trans (by rw[hne.out])) ?_;go_frame) | go_big_quiet_step (fail))
     refine lA ?_
     change wpList _ _ _ _ _ y7
     go_wp2_with fail;refine (hrf.out _ _).mono ?_;rintro e wz ⟨rfl,hwz⟩;rw[hwz];clear hwz wz;go_wp2_with fail;refine lD ?_;go_wp2_with fail;go_meet;exact⟨rfl,hB7⟩
    ·skip
     intro K hK;refine J0 _ _ rfl _ (Ku _ rfl ⟨y1.heap.size,0,none⟩ _ rfl) ?_;refine hK _ _ ⟨⟨_,(hPS.out _).2 hB6⟩,rfl⟩ ?_;clear hK;refine lA ?_;refine⟨?_,?_⟩
     ·skip
      intro K hK;go_simp;refine (hsum.out _ _ _ hB6 ⟨hrA6.weak (fun _ h _=>h),hc1⟩).mono ?_;rintro e y11 ⟨rfl,hb11⟩;have hB11:Below w1.heap.size w1 y11:=hB6.trans (hb11.mono hB6.size);have hrB11:=hr6.stayB hb11;refine hK _ _ ⟨⟨_,(hPS.out _).2 hB11⟩,rfl⟩ ?_;clear hK;refine lA ?_;intro K hK;refine Ji _ rfl 59 (.tmp 40) rfl y1.heap.size rfl dg hrB11 hdgl rfl ?_;refine hK _ _ ⟨⟨_,(hPS.out _).2 hB11⟩,rfl⟩ ?_;clear hK;repeat (first | (refine Zc (lB 9 (.tmp 31) none (some (.tmp 32)) none) rfl rfl (.string ⟨bo.toArray⟩) (fun w' _=>Xv w' rfl p bo bo.length rfl rfl hle1 htk.out) ?_;go_frame) | (refine Zc (lB 9 (.tmp 36) (some (.tmp 37)) none none) rfl rfl (.string ⟨dg.toArray⟩) (fun w' _=>Jb w' rfl p dg bo.length rfl rfl hle1 hdr.out) ?_;go_frame) | (refine Zc (.binOp .neq 59 (.tmp 35) (.tmp 41) 59) rfl rfl (.bool false) (fun w' _=>(Xx w' rfl hh dg rfl rfl hhl hdgl).trans (by rw[hne.out])) ?_;go_frame) | go_big_quiet_step (fail))
      refine lA ?_
      change wpList _ _ _ _ _ y11
      go_wp2_with fail;refine (hrf.out _ _).mono ?_;rintro e wz ⟨rfl,hwz⟩;rw[hwz];clear hwz wz;go_wp2_with fail;refine lD ?_;go_wp2_with fail;go_meet;exact⟨rfl,hB11⟩
     ·skip
      intro K hK;refine Ji _ rfl 59 (.tmp 40) rfl y1.heap.size rfl dg hr6 hdgl rfl ?_;refine hK _ _ ⟨⟨_,(hPS.out _).2 hB6⟩,rfl⟩ ?_;clear hK;refine lA ?_;intro K hK;go_simp;refine (hsum.out _ _ _ hB6 ⟨hrA6.weak (fun _ h _=>h),hc1⟩).mono ?_;rintro e y14 ⟨rfl,hb14⟩;have hB14:Below w1.heap.size w1 y14:=hB6.trans (hb14.mono hB6.size);have hrB14:=hr6.stayB hb14;refine hK _ _ ⟨⟨_,(hPS.out _).2 hB14⟩,rfl⟩ ?_;clear hK;repeat (first | (refine Zc (lB 9 (.tmp 31) none (some (.tmp 32)) none) rfl rfl (.string ⟨bo.toArray⟩) (fun w' _=>Xv w' rfl p bo bo.length rfl rfl hle1 htk.out) ?_;go_frame) | (refine Zc (lB 9 (.tmp 36) (some (.tmp 37)) none none) rfl rfl (.string ⟨dg.toArray⟩) (fun w' _=>Jb w' rfl p dg bo.length rfl rfl hle1 hdr.out) ?_;go_frame) | (refine Zc (.binOp .neq 59 (.tmp 35) (.tmp 41) 59) rfl rfl (.bool false) (fun w' _=>(Xx w' rfl hh dg rfl rfl hhl hdgl).trans (by rw[hne.out])) ?_;go_frame) | go_big_quiet_step (fail))
      refine lA ?_
      change wpList _ _ _ _ _ y14
      go_wp2_with fail;refine (hrf.out _ _).mono ?_;rintro e wz ⟨rfl,hwz⟩;rw[hwz];clear hwz wz;go_wp2_with fail;refine lD ?_;go_wp2_with fail;go_meet;exact⟨rfl,hB14⟩
  ·skip
   intro K hK;refine Js _ rfl (.tmp 38) rfl dg rfl ?_;intro y15 c15 hb15 hlt15 hc15 hr15;rw[hdgl];have hB15:Below w1.heap.size w1 y15:=hB0.trans (hb15.mono hB0.size);refine hK _ _ ⟨⟨_,(hPS.out _).2 hB15⟩,rfl⟩ ?_;clear hK;refine lA ?_;refine⟨?_,?_⟩
   ·skip
    intro K hK;refine Js _ rfl (.tmp 33) rfl bo rfl ?_;intro y16 c16 hb16 hlt16 hc16 hr16;have hB16:Below w1.heap.size w1 y16:=hB15.trans (hb16.mono hB15.size);have hrB16:=hr15.stayB hb16;refine hK _ _ ⟨⟨_,(hPS.out _).2 hB16⟩,rfl⟩ ?_;clear hK;refine lA ?_;refine⟨?_,?_⟩
    ·skip
     intro K hK;go_simp;refine (hsum.out _ _ _ hB16 ⟨hr16.weak (fun _ h _=>h),hc16⟩).mono ?_;rintro e y17 ⟨rfl,hb17⟩;have hB17:Below w1.heap.size w1 y17:=hB16.trans (hb17.mono hB16.size);have hrB17:=hrB16.stayB hb17;refine hK _ _ ⟨⟨_,(hPS.out _).2 hB17⟩,rfl⟩ ?_;clear hK;refine lA ?_;intro K hK;refine J0 _ _ rfl _ (Ku _ rfl ⟨w1.drew.heap.size,0,none⟩ _ rfl) ?_;refine hK _ _ ⟨⟨_,(hPS.out _).2 hB17⟩,rfl⟩ ?_;clear hK;refine lA ?_;intro K hK;refine Ji _ rfl 59 (.tmp 40) rfl w1.drew.heap.size rfl dg hrB17 hdgl rfl ?_;refine hK _ _ ⟨⟨_,(hPS.out _).2 hB17⟩,rfl⟩ ?_;clear hK;repeat (first | (refine Zc (lB 9 (.tmp 31) none (some (.tmp 32)) none) rfl rfl (.string ⟨bo.toArray⟩) (fun w' _=>Xv w' rfl p bo bo.length rfl rfl hle1 htk.out) ?_;go_frame) | (refine Zc (lB 9 (.tmp 36) (some (.tmp 37)) none none) rfl rfl (.string ⟨dg.toArray⟩) (fun w' _=>Jb w' rfl p dg bo.length rfl rfl hle1 hdr.out) ?_;go_frame) | (refine Zc (.binOp .neq 59 (.tmp 35) (.tmp 41) 59) rfl rfl (.bool false) (fun w' _=>(Xx w' rfl hh dg rfl rfl hhl hdgl).trans (by rw[hne.out])) ?_;go_frame) | go_big_quiet_step (fail))
     refine lA ?_
     change wpList _ _ _ _ _ y17
     go_wp2_with fail;refine (hrf.out _ _).mono ?_;rintro e wz ⟨rfl,hwz⟩;rw[hwz];clear hwz wz;go_wp2_with fail;refine lD ?_;go_wp2_with fail;go_meet;exact⟨rfl,hB17⟩
    ·skip
     intro K hK;refine J0 _ _ rfl _ (Ku _ rfl ⟨w1.drew.heap.size,0,none⟩ _ rfl) ?_;refine hK _ _ ⟨⟨_,(hPS.out _).2 hB16⟩,rfl⟩ ?_;clear hK;refine lA ?_;refine⟨?_,?_⟩
     ·skip
      intro K hK;go_simp;refine (hsum.out _ _ _ hB16 ⟨hr16.weak (fun _ h _=>h),hc16⟩).mono ?_;rintro e y21 ⟨rfl,hb21⟩;have hB21:Below w1.heap.size w1 y21:=hB16.trans (hb21.mono hB16.size);have hrB21:=hrB16.stayB hb21;refine hK _ _ ⟨⟨_,(hPS.out _).2 hB21⟩,rfl⟩ ?_;clear hK;refine lA ?_;intro K hK;refine Ji _ rfl 59 (.tmp 40) rfl w1.drew.heap.size rfl dg hrB21 hdgl rfl ?_;refine hK _ _ ⟨⟨_,(hPS.out _).2 hB21⟩,rfl⟩ ?_;clear hK;repeat (first | (refine Zc (lB 9 (.tmp 31) none (some (.tmp 32)) none) rfl rfl (.string ⟨bo.toArray⟩) (fun w' _=>Xv w' rfl p bo bo.length rfl rfl hle1 htk.out) ?_;go_frame) | (refine Zc (lB 9 (.tmp 36) (some (.tmp 37)) none none) rfl rfl (.string ⟨dg.toArray⟩) (fun w' _=>Jb w' rfl p dg bo.length rfl rfl hle1 hdr.out) ?_;go_frame) | (refine Zc (.binOp .neq 59 (.tmp 35) (.tmp 41) 59) rfl rfl (.bool false) (fun w' _=>(Xx w' rfl hh dg rfl rfl hhl hdgl).trans (by rw[hne.out])) ?_;go_frame) | go_big_quiet_step (fail))
      refine lA ?_
      change wpList _ _ _ _ _ y21
      go_wp2_with fail;refine (hrf.out _ _).mono ?_;rintro e wz ⟨rfl,hwz⟩;rw[hwz];clear hwz wz;go_wp2_with fail;refine lD ?_;go_wp2_with fail;go_meet;exact⟨rfl,hB21⟩
     ·skip
      intro K hK;refine Ji _ rfl 59 (.tmp 40) rfl w1.drew.heap.size rfl dg hrB16 hdgl rfl ?_;refine hK _ _ ⟨⟨_,(hPS.out _).2 hB16⟩,rfl⟩ ?_;clear hK;refine lA ?_;intro K hK;go_simp;refine (hsum.out _ _ _ hB16 ⟨hr16.weak (fun _ h _=>h),hc16⟩).mono ?_;rintro e y24 ⟨rfl,hb24⟩;have hB24:Below w1.heap.size w1 y24:=hB16.trans (hb24.mono hB16.size);have hrB24:=hrB16.stayB hb24;refine hK _ _ ⟨⟨_,(hPS.out _).2 hB24⟩,rfl⟩ ?_;clear hK;repeat (first | (refine Zc (lB 9 (.tmp 31) none (some (.tmp 32)) none) rfl rfl (.string ⟨bo.toArray⟩) (fun w' _=>Xv w' rfl p bo bo.length rfl rfl hle1 htk.out) ?_;go_frame) | (refine Zc (lB 9 (.tmp 36) (some (.tmp 37)) none none) rfl rfl (.string ⟨dg.toArray⟩) (fun w' _=>Jb w' rfl p dg bo.length rfl rfl hle1 hdr.out) ?_;go_frame) | (refine Zc (.binOp .neq 59 (.tmp 35) (.tmp 41) 59) rfl rfl (.bool false) (fun w' _=>(Xx w' rfl hh dg rfl rfl hhl hdgl).trans (by rw[hne.out])) ?_;go_frame) | go_big_quiet_step (fail))
      refine lA ?_
      change wpList _ _ _ _ _ y24
      go_wp2_with fail;refine (hrf.out _ _).mono ?_;rintro e wz ⟨rfl,hwz⟩;rw[hwz];clear hwz wz;go_wp2_with fail;refine lD ?_;go_wp2_with fail;go_meet;exact⟨rfl,hB24⟩
   ·skip
    intro K hK;refine J0 _ _ rfl _ (Ku _ rfl ⟨w1.drew.heap.size,0,none⟩ _ rfl) ?_;refine hK _ _ ⟨⟨_,(hPS.out _).2 hB15⟩,rfl⟩ ?_;clear hK;refine lA ?_;refine⟨?_,?_⟩
    ·skip
     intro K hK;refine Js _ rfl (.tmp 33) rfl bo rfl ?_;intro y26 c26 hb26 hlt26 hc26 hr26;have hB26:Below w1.heap.size w1 y26:=hB15.trans (hb26.mono hB15.size);have hrB26:=hr15.stayB hb26;refine hK _ _ ⟨⟨_,(hPS.out _).2 hB26⟩,rfl⟩ ?_;clear hK;refine lA ?_;refine⟨?_,?_⟩
     ·skip
      intro K hK;go_simp;refine (hsum.out _ _ _ hB26 ⟨hr26.weak (fun _ h _=>h),hc26⟩).mono ?_;rintro e y27 ⟨rfl,hb27⟩;have hB27:Below w1.heap.size w1 y27:=hB26.trans (hb27.mono hB26.size);have hrB27:=hrB26.stayB hb27;refine hK _ _ ⟨⟨_,(hPS.out _).2 hB27⟩,rfl⟩ ?_;clear hK;refine lA ?_;intro K hK;refine Ji _ rfl 59 (.tmp 40) rfl w1.drew.heap.size rfl dg hrB27 hdgl rfl ?_;refine hK _ _ ⟨⟨_,(hPS.out _).2 hB27⟩,rfl⟩ ?_;clear hK;repeat (first | (refine Zc (lB 9 (.tmp 31) none (some (.tmp 32)) none) rfl rfl (.string ⟨bo.toArray⟩) (fun w' _=>Xv w' rfl p bo bo.length rfl rfl hle1 htk.out) ?_;go_frame) | (refine Zc (lB 9 (.tmp 36) (some (.tmp 37)) none none) rfl rfl (.string ⟨dg.toArray⟩) (fun w' _=>Jb w' rfl p dg bo.length rfl rfl hle1 hdr.out) ?_;go_frame) | (refine Zc (.binOp .neq 59 (.tmp 35) (.tmp 41) 59) rfl rfl (.bool false) (fun w' _=>(Xx w' rfl hh dg rfl rfl hhl hdgl).trans (by rw[hne.out])) ?_;go_frame) | go_big_quiet_step (fail))
      refine lA ?_
      change wpList _ _ _ _ _ y27
      go_wp2_with fail;refine (hrf.out _ _).mono ?_;rintro e wz ⟨rfl,hwz⟩;rw[hwz];clear hwz wz;go_wp2_with fail;refine lD ?_;go_wp2_with fail;go_meet;exact⟨rfl,hB27⟩
     ·skip
      intro K hK;refine Ji _ rfl 59 (.tmp 40) rfl w1.drew.heap.size rfl dg hrB26 hdgl rfl ?_;refine hK _ _ ⟨⟨_,(hPS.out _).2 hB26⟩,rfl⟩ ?_;clear hK;refine lA ?_;intro K hK;go_simp;refine (hsum.out _ _ _ hB26 ⟨hr26.weak (fun _ h _=>h),hc26⟩).mono ?_;rintro e y30 ⟨rfl,hb30⟩;have hB30:Below w1.heap.size w1 y30:=hB26.trans (hb30.mono hB26.size);have hrB30:=hrB26.stayB hb30;refine hK _ _ ⟨⟨_,(hPS.out _).2 hB30⟩,rfl⟩ ?_;clear hK;repeat (first | (refine Zc (lB 9 (.tmp 31) none (some (.tmp 32)) none) rfl rfl (.string ⟨bo.toArray⟩) (fun w' _=>Xv w' rfl p bo bo.length rfl rfl hle1 htk.out) ?_;go_frame) | (refine Zc (lB 9 (.tmp 36) (some (.tmp 37)) none none) rfl rfl (.string ⟨dg.toArray⟩) (fun w' _=>Jb w' rfl p dg bo.length rfl rfl hle1 hdr.out) ?_;go_frame) | (refine Zc (.binOp .neq 59 (.tmp 35) (.tmp 41) 59) rfl rfl (.bool false) (fun w' _=>(Xx w' rfl hh dg rfl rfl hhl hdgl).trans (by rw[hne.out])) ?_;go_frame) | go_big_quiet_step (fail))
      refine lA ?_
      change wpList _ _ _ _ _ y30
      go_wp2_with fail;refine (hrf.out _ _).mono ?_;rintro e wz ⟨rfl,hwz⟩;rw[hwz];clear hwz wz;go_wp2_with fail;refine lD ?_;go_wp2_with fail;go_meet;exact⟨rfl,hB30⟩
    ·skip
     intro K hK;refine Ji _ rfl 59 (.tmp 40) rfl w1.drew.heap.size rfl dg hr15 hdgl rfl ?_;refine hK _ _ ⟨⟨_,(hPS.out _).2 hB15⟩,rfl⟩ ?_;clear hK;refine lA ?_;intro K hK;refine Js _ rfl (.tmp 33) rfl bo rfl ?_;intro y32 c32 hb32 hlt32 hc32 hr32;have hB32:Below w1.heap.size w1 y32:=hB15.trans (hb32.mono hB15.size);have hrB32:=hr15.stayB hb32;refine hK _ _ ⟨⟨_,(hPS.out _).2 hB32⟩,rfl⟩ ?_;clear hK;refine lA ?_;intro K hK;go_simp;refine (hsum.out _ _ _ hB32 ⟨hr32.weak (fun _ h _=>h),hc32⟩).mono ?_;rintro e y33 ⟨rfl,hb33⟩;have hB33:Below w1.heap.size w1 y33:=hB32.trans (hb33.mono hB32.size);have hrB33:=hrB32.stayB hb33;refine hK _ _ ⟨⟨_,(hPS.out _).2 hB33⟩,rfl⟩ ?_;clear hK;repeat (first | (refine Zc (lB 9 (.tmp 31) none (some (.tmp 32)) none) rfl rfl (.string ⟨bo.toArray⟩) (fun w' _=>Xv w' rfl p bo bo.length rfl rfl hle1 htk.out) ?_;go_frame) | (refine Zc (lB 9 (.tmp 36) (some (.tmp 37)) none none) rfl rfl (.string ⟨dg.toArray⟩) (fun w' _=>Jb w' rfl p dg bo.length rfl rfl hle1 hdr.out) ?_;go_frame) | (refine Zc (.binOp .neq 59 (.tmp 35) (.tmp 41) 59) rfl rfl (.bool false) (fun w' _=>(Xx w' rfl hh dg rfl rfl hhl hdgl).trans (by rw[hne.out])) ?_;go_frame) | go_big_quiet_step (fail))
     refine lA ?_
     change wpList _ _ _ _ _ y33
     go_wp2_with fail;refine (hrf.out _ _).mono ?_;rintro e wz ⟨rfl,hwz⟩;rw[hwz];clear hwz wz;go_wp2_with fail;refine lD ?_;go_wp2_with fail;go_meet;exact⟨rfl,hB33⟩
 case rest =>
  obtain⟨rfl,hbc⟩:=hcut;have hL2:=hL1.out.below hbc hL1.out.lt;have hE2:=hE1.out.below hbc hE1.out.lt;have hb2:=hb1.out.trans (hbc.mono hb1.out.size);have hlw:w.heap.size+1<wc.heap.size:=hE2.lt;clear hL1 hE1 hb1 hbc hsum hmf;replace hL2:=iD hL2;replace hE2:=iD hE2;replace hb2:=iD hb2;go_upto_region 8 with (first
   | (refine Y2 (lB 9 (.tmp 44) none (some (.tmp 45)) none) rfl rfl (.string ⟨bo.toArray⟩) (Xv _ rfl p bo bo.length rfl rfl hle1 htk.out) ?_;go_frame)
   | (refine Z0s rfl (.tmp 46) rfl bo rfl ?_;intro w3 c3 hb3 hlt3 hc3 hrd3;replace hb3:=iD hb3;replace hrd3:=iD hrd3;go_frame)
   | fail)
  generalize hW4:lI w3 _=w4;have hG4:Blk w4 w3.heap.size 305 [.slice (some ⟨wc.heap.size,0,none⟩) bo.length c3,.int .i64 (3:Nat)]:=by rw[<-hW4];exact Blk.new_at (cs:=[.slice (some ⟨wc.heap.size,0,none⟩) bo.length c3,.int .i64 3]) rfl
  have hb34:Below w3.heap.size w3 w4:=by rw[<-hW4];exact bL
  have hR4:Src w3.heap.size w3.heap.size w4 (some ⟨wc.heap.size,0,none⟩) bo:=(hrd3.out.stay (fun b _ hlt=>hb34.block b hlt) (fun b hb hlt=>⟨by omega,hlt⟩));have hb24:Below wc.heap.size wc w4:=hb3.out.trans (hb34.mono hb3.out.size);have hL4:=hL2.out.below hb24 hL2.out.lt;have hE4:=hE2.out.below hb24 hE2.out.lt;have hb4:=hb2.out.trans (hb24.mono hb2.out.size);have hn4:w3.heap.size<=w4.heap.size:=hb34.size;have hg3:w.heap.size+1<w3.heap.size:=Nat.lt_of_lt_of_le hlw hb3.out.size;obtain⟨g,hg⟩:∃ g,g=w3.heap.size:=⟨_,rfl⟩;obtain⟨A,hA⟩:∃ A,A=(some ⟨wc.heap.size,0,none⟩:Option Addr):=⟨_,rfl⟩;rw[<-hg] at hG4 hR4 hn4 hg3 ⊢;rw[<-hA] at hG4 hR4 ⊢;clear hW4 hb34 hb24 hL2 hE2 hb2 hb3 hrd3 hg hA;have hnm:=Za9 bo A c3 3 1 g g _ _ [] w4 hG4 hR4 (by omega) (by omega) (by decide) hr3.out;have hp1:(Z3 1).length=1:=by rw[Xq (by decide)];rfl
  rw[hp1] at hnm;clear hp1;replace hL4:=iD hL4;replace hE4:=iD hE4;replace hb4:=iD hb4;replace hR4:=iD hR4;go_wp2_with fail;refine hnm.mono ?_;rintro e w5 ⟨rfl,hG5,hT5⟩;have hR5:Src g g w5 A bo:=hR4.out.touch hT5 hn4;have hL5:=hL4.out.touch hT5 (by simp;omega);have hE5:=hE4.out.touch hT5 (by simp;omega);have hb5:=hb4.out.trans (hT5.below hb4.out.size (fun i hi=>by simp at hi;omega));have hn5:g<w5.heap.size:=hG5.lt;clear hnm hG4 hR4 hL4 hE4 hb4 hT5;replace hG5:=iD hG5;replace hL5:=iD hL5;replace hE5:=iD hE5;replace hb5:=iD hb5;replace hR5:=iD hR5;go_wp2_with fail;refine (hrf.out _ _).mono ?_;rintro e wz ⟨rfl,hwz⟩;rw[hwz];clear hwz wz;go_wp2_with fail;refine wp_loop_rounds 2 ?_;rw[rounds_succ];go_wp2_with fail;generalize hW6:lI w5 _=w6;have hZ6:Blk w6 w5.heap.size 59 Z2:=by rw[<-hW6];exact Blk.new_at (cs:=Z2) rfl
  have hb56:Below w5.heap.size w5 w6:=by rw[<-hW6];exact bL
  have hG6:=hG5.out.below hb56 hn5;have hR6:Src g g w6 A bo:=hR5.out.stay (fun b _ hlt=>hb56.block b hlt) (fun b hb _=>hb);have hL6:=hL5.out.below hb56 hL5.out.lt;have hE6:=hE5.out.below hb56 hE5.out.lt;have hb6:=hb5.out.trans (hb56.mono hb5.out.size);have hn6:g<=w6.heap.size:=Nat.le_of_lt (hG6.lt);clear hW6 hb56 hG5 hR5 hL5 hE5 hb5;have hobj:=Zks bo A c3 4 g g xs [] hx w6 hG6 hR6 hn6 (by omega) hc3 (fun W hT=>hKb.out W (hb6.trans (hT.below hb6.size (fun i hi=>by simp at hi;omega)))) hr4.out;obtain⟨ds,hds⟩:∃ ds,ds=Y6 xs:=⟨_,rfl⟩;have hdl:ds.length=32:=by rw[hds];exact J2 xs
  rw[<-hds] at hobj;replace hds:=iD hds;replace hL6:=iD hL6;replace hE6:=iD hE6;replace hb6:=iD hb6;replace hZ6:=iD hZ6;obtain⟨db,hdb⟩:∃ db,db=w5.heap.size:=⟨_,rfl⟩;rw[<-hdb] at hZ6 hn5 ⊢;refine hobj.mono ?_;rintro e w7 ⟨rfl,hG7,hT7⟩;have hZ7:=hZ6.out.touch hT7 (by simp;omega);have hL7:=hL6.out.touch hT7 (by simp;omega);have hE7:=hE6.out.touch hT7 (by simp;omega);have hb7:=hb6.out.trans (hT7.below hb6.out.size (fun i hi=>by simp at hi;omega));have hdo:∀ v ∈ ds.map B,v.oneCell'=true:=Y5 _;have hgdb:g<db:=hn5;clear hobj hG6 hR6 hL6 hE6 hb6 hZ6 hT7 hdb;rw[l9,Nat.sub_zero] at hG7;replace hG7:=iD hG7;replace hZ7:=iD hZ7;replace hL7:=iD hL7;replace hE7:=iD hE7;replace hb7:=iD hb7;go_upto_region 16 with (first
   | (refine Zd rfl 59 (.tmp 10) (.tmp 61) rfl db (ds.map B) rfl rfl 59 Z2 hZ7.out (by simp[hdl,Z2]) (Zg hdl) hdo ?_;go_frame)
   | fail)
  generalize hW8:lV w7 db _=w8;have hD8:Blk w8 db 59 (ds.map B):=by rw[<-hW8];exact hZ7.out.setRow_same (ds.map B)
  have hT8:Touch [db] w7 w8:=by rw[<-hW8];exact Touch.setRow (by simp) _
  have hG8:=hG7.out.touch hT8 (by simp;omega);have hL8:=hL7.out.touch hT8 (by simp;omega);have hE8:=hE7.out.touch hT8 (by simp;omega);have hb8:=hb7.out.trans (hT8.below hb7.out.size (fun i hi=>by simp at hi;omega));have hz8:=hb8.size;clear hW8 hT8 hG7 hZ7 hL7 hE7 hb7;replace hD8:=iD hD8;replace hG8:=iD hG8;replace hL8:=iD hL8;replace hE8:=iD hE8;replace hb8:=iD hb8;refine lW ?_;refine Y2 (.move (.tmp 7)) rfl rfl Z0 rfl ?_;go_frame;refine Zy rfl 59 (.tmp 10) rfl db rfl 59 (ds.map B) hD8.out _ underlying59 rfl (Zg hdl) ?_;go_frame;refine J5 rfl _ (Jy 22 (.tmp 65) rfl (.agg (ds.map B).toArray) _ rfl (Z0r ds hdl w8)) ?_;go_frame;refine Yt _ rfl (.tmp 64) (.tmp 66) 22 rfl w8.heap.size 59 _ 32 32 underlying22 Uh Z0 0 [] rfl ⟨rfl,.inl ⟨rfl,rfl⟩⟩ (fun _=>True) (some ⟨w8.heap.size,0,none⟩) 1 1 (ds.map B) rfl (by simp[hdl]) (Rd.of_blk (cs:=ds.map B) (r:=[]) (Blk.new_at rfl) (by simp) trivial) hdo (by unfold maxLen;omega) (by omega) (by simp) ?_;intro V9 w9 hrow9 hg9 hv9;have hb9:Below w8.heap.size w8 w9:=((lJ w8.heap.size w8).alloc (lF _) (.cells (ds.map B).toArray 59)).trans (Yo (v:=Z0) (n:=0) (xs:=[]) (e:=59) (size:=32) ⟨rfl,.inl ⟨rfl,rfl⟩⟩ hg9 (by simp));obtain⟨NA,nc,rfl,_,_⟩:=Za hrow9;have hG9:=hG8.out.below hb9 hG8.out.lt;have hL9:=hL8.out.below hb9 hL8.out.lt;have hE9:=hE8.out.below hb9 hE8.out.lt;have hb09:=hb8.out.trans (hb9.mono hz8);clear hrow9 hg9 hv9 hb9 hG8 hL8 hE8 hb8 hD8;replace hG9:=iD hG9;replace hE9:=iD hE9;replace hb09:=iD hb09;have cL9:w9.cell? ⟨w.heap.size,0,none⟩=some Z0:=hL9.cell 0;replace hL9:=iD hL9;go_frame;refine Y2 (.assign (.tmp 67)) rfl rfl (.slice NA 1 nc) rfl ?_;go_frame;refine wpList_nil ?_;have hz9:=hb09.out.size;go_upto_region 17 with fail;refine lW ?_;refine Y2 (.load 169 (.tmp 2)) rfl rfl Z0 (by simp[execOp,Act.eval,loadVar,isAgg,lS underlying169,go_sem,cL9]) ?_;go_frame;refine Y2 (.move (.tmp 8)) rfl rfl (.string ⟨xs.toArray⟩) rfl ?_;go_frame;refine J5 rfl _ (Jy 169 (.tmp 69) rfl (.string ⟨xs.toArray⟩) _ rfl (Zab _ w9)) ?_;go_frame;refine Yt _ rfl (.tmp 68) (.tmp 70) 169 rfl w.heap.size 9 _ 1 16 underlying169 Zac Z0 0 [] rfl ⟨rfl,.inl ⟨rfl,rfl⟩⟩ (fun _=>True) (some ⟨w9.heap.size,0,none⟩) 1 1 [.string ⟨xs.toArray⟩] rfl (by simp) (Rd.of_blk (cs:=[.string ⟨xs.toArray⟩]) (r:=[]) (Blk.new_at rfl) (by simp) trivial) (by simp[nB]) (by unfold maxLen;omega) (by omega) (by simp;omega) ?_;intro V10 w10 hrow10 hg10 hv10;rw[Nat.zero_add,List.nil_append] at hrow10;have hb10:Below w9.heap.size w9 w10:=((lJ w9.heap.size w9).alloc (lF _) (.cells #[.string ⟨xs.toArray⟩] 9)).trans (Yo (v:=Z0) (n:=0) (xs:=[]) (e:=9) (size:=1) ⟨rfl,.inl ⟨rfl,rfl⟩⟩ hg10 (by simp));obtain⟨SA,sc,rfl,_,_⟩:=Za hrow10;have hG10:=hG9.out.below hb10 hG9.out.lt;have hL10:=hL9.out.below hb10 hL9.out.lt;have hE10:=hE9.out.below hb10 hE9.out.lt;have hb010:=hb09.out.trans (hb10.mono hz9);clear hg10 hv10 hb10 hG9 hL9 hE9 hb09 cL9;have q1:w10.cell? ⟨w.heap.size,0,none⟩=some Z0:=hL10.cell 0;have r1:=hL10.frozen 0;have hL11:=hL10.set_ 0 (.slice SA 1 sc);have hT11:Touch [w.heap.size] w10 (w10.setCell ⟨w.heap.size,0,none⟩ (.slice SA 1 sc)):=Touch.setCell _ (by simp);have hG11:=hG10.touch hT11 (by simp;omega);have hE11:=hE10.touch hT11 (by simp);have hrow11:=Zj hrow10 hT11 (fun b hb hm=>by
   have h1:=Ys hrow10 hL10 (by decide);obtain rfl:b=w.heap.size:=by simpa using hm
   exact h1 hb.symm)
  have hb011:=hb010.trans (hT11.below hb010.size (fun i hi=>by simp at hi;omega));clear hrow10 hL10 hG10 hE10 hb010 hT11;replace hL11:=iD hL11;replace hG11:=iD hG11;replace hE11:=iD hE11;replace hrow11:=iD hrow11;replace hb011:=iD hb011;go_frame;go_wp2_with fail;generalize hW11:lX w10 _ _=w11 at hL11 hG11 hE11 hrow11 hb011 ⊢;clear hW11 q1 r1;rw[rounds_succ];have k1:w11.cell? ⟨g,1,none⟩=some (.int .i64 (bo.length:Int)):=hG11.out.cell 1;go_wp2_with fail;refine (hrf.out _ _).mono ?_;rintro e wz ⟨rfl,hwz⟩;rw[hwz];clear hwz wz k1;have q1:w11.cell? ⟨w.heap.size,0,none⟩=some (.slice SA 1 sc):=hL11.out.cell 0;have r1:=hL11.out.frozen 0;have hL12:=hL11.out.set_ 0 (.slice SA 1 sc);have hT12:Touch [w.heap.size] w11 (w11.setCell ⟨w.heap.size,0,none⟩ (.slice SA 1 sc)):=Touch.setCell _ (by simp);have hE12:=hE11.out.touch hT12 (by simp);have q2:(w11.setCell ⟨w.heap.size,0,none⟩ (.slice SA 1 sc)).cell? ⟨w.heap.size+1,0,none⟩=some (.int .i64 0):=hE12.cell 0;have r2:=hE12.frozen 0;have hT13:=(Touch.setCell (L:=[w.heap.size,w.heap.size+1]) (w:=w11) (g:=w.heap.size) (i:=0) (.slice SA 1 sc) (by simp)).trans (Touch.setCell (L:=[w.heap.size,w.heap.size+1]) (w:=w11.setCell ⟨w.heap.size,0,none⟩ (.slice SA 1 sc)) (g:=w.heap.size+1) (i:=0) (.int .i64 0) (by simp)) (fun i hi=>.inl hi);have hL13:=hL12.far (p:=⟨w.heap.size+1,0,none⟩) (by show w.heap.size ≠ w.heap.size+1;omega) (.int .i64 0);have hE13:=hE12.set_ 0 (.int .i64 0);replace hT13:=iD hT13;replace hL13:=iD hL13;replace hE13:=iD hE13;replace hL12:=iD hL12;replace hE12:=iD hE12;clear hT12;go_wp2_with fail;have hL13o:=hL13.out;have hE13o:=hE13.out;have hT13o:=hT13.out;generalize hW13:lX (lX w11 _ _) _ _=w13 at hL13o hE13o hT13o ⊢;refine leaves_cons (f:=206) (args:=#[.pointer (some ⟨w.heap.size,0,none⟩),.pointer (some ⟨w.heap.size+1,0,none⟩)]) (by simp) (by simp[go_sem]) ?_;refine (Zku _ _ w13).mono ?_;rintro e u' w'' ⟨rfl,rfl,rfl⟩;refine⟨_,Zkv (p:=2) (q:=3) rfl _ _ _ w.heap.size (w.heap.size+1) 169 23 (.slice SA 1 sc) (.int .i64 0) _ rfl rfl hL13o hE13o underlying169 underlying23,SA,sc,rfl,?_,hb011.out.trans (hT13o.below hb011.out.size (fun i hi=>by simp at hi;omega))⟩;refine Zj hrow11.out hT13o (fun b hb hm=>?_);have h1:=Ys hrow11.out hL11.out (by decide);have h2:=Ys hrow11.out (show Blk w11 (w.heap.size+1) 23 [.int .i64 0] from hE11.out) (by decide);simp only[lY,lZ,or_false] at hm;rcases hm with rfl | rfl
  ·exact h1 hb.symm
  ·exact h2 hb.symm
end
section
set_option maxRecDepth 100000
set_option maxHeartbeats 4000000
open Go.Lib renaming hid → iD
open Go.Proofs.Tryz
open Go.RowKit
theorem Zad{P:Program}{w:World}{o:Oper}{a:Act}(t:TypeId)(x:Operand)(ho:o.op=.slice t x none none none)(V r:Value)(hx:a.eval x=V)(h:(nC t V none none none).run P w=.ok r w):(execOp a.eval o).run P w=.ok (.value r) w:=by
 simp only[execOp,ho,hx,lO,lP,h,lQ,lR]
theorem Z0u(n:Nat)(w:World)(hn:n<=9223372036854775807) :
  Calls lC 47 #[.int .i64 n] w fun e w'=>e=.returned (.string ⟨(Z3 n).toArray⟩)/\Below w.heap.size w w':=by
 have hp:=iD (Z7e n w hn);go_enter func47,ntmps47;go_wp2_with fail;refine hp.out.mono ?_;rintro e w1 ⟨V,rfl,hrow,hb1⟩;obtain⟨A,c,rfl,_,_⟩:=Za hrow;have hR:=iD (K1 hrow);clear hrow hp;obtain⟨xs,hxs⟩:∃ xs,xs=Z3 n:=⟨_,rfl⟩;rw[<-hxs] at hR ⊢;replace hxs:=iD hxs;go_wp2_with (first
  | (refine Qf rfl 57 9 (.tmp 10) rfl 5 underlying57 underlying5 underlying9 A xs c rfl hR.out ?_;go_frame)
  | fail)
 go_returns;exact⟨by rw[<-hxs.out];rfl,hb1⟩
theorem Zae(l:List Str)(v:Value)(ok:Nat->Prop)(w:World)(h:Ze w ok v l)(hx:hOk l)(hl:l.length<=1000000) :
  Calls lC 49 #[v] w fun e w'=>e=.returned (.string ⟨(Ks l).toArray⟩)/\Below w.heap.size w w':=by
 have hp:=iD (Z0u l.length w (by omega));obtain⟨A,c,rfl,hc,hr⟩:=h;have hX:Hid (Ze w ok (.slice A l.length c) l):=iD ⟨A,c,rfl,hc,hr⟩;have hpl:(Z3 l.length).length<=10:=Jr (by
  have : (128:Nat) ^ 9=9223372036854775808:=by decide
  omega)
 obtain⟨pn,hpn⟩:∃ pn,pn=Z3 l.length:=⟨_,rfl⟩;unfold Ks;rw[<-hpn] at hp hpl ⊢;replace hpn:=iD hpn;have hox:=iD hx;clear hr hc hx;go_enter func49,ntmps49;go_wp2_with fail;refine hp.out.mono ?_;rintro e w1 ⟨rfl,hb1⟩;clear hp;go_wp2_with (first
  | (refine Z59 rfl (.tmp 8) rfl pn rfl w.heap.size hb1.size (by omega) ?_;intro w2 c2 hb2 hF2;replace hb2:=iD hb2;replace hF2:=iD hF2;go_frame)
  | fail)
 go_loopw [3,12] (fun b i wr=>∃ k:Nat,k<=l.length/\i=.int .i64 k/\Zw wr w.heap.size b (pn++(l.take k).flatten)/\Below w.heap.size w wr) (fun _ i _=>l.length - (intOf i).toNat)
 case atStart=>exact⟨0,Nat.zero_le _,rfl,by simpa using hF2.out,hb1.trans (hb2.out.mono hb1.size)⟩
 case round =>
  obtain⟨k,hk,rfl,hF,hb⟩:=hrel;have hsz:=hb.size;by_cases hlt:k<l.length
  ·obtain⟨b1,o1,rfl,_,hbl,hc1⟩:=hX.out.dig hox.out k hlt;have hxl:=hox.out l[k] (List.getElem_mem hlt);have hc1':Hid (∀ j v,(l[k].map B)[j]?=some v->wr.cell? ⟨b1,o1+k*32+j,none⟩=some v):=iD (fun j v hv=>by
    rw[hb.cell (p:=⟨b1,_,none⟩) hbl];exact hc1 j v hv)
   have htk:Hid ((l.take (k+1)).flatten=(l.take k).flatten++l[k]):=iD (by rw[O4 hlt,List.flatten_append];simp);have hfl:((l.take k).flatten).length<=32000000:=by
    rw[Qu (fun d hd=>hox.out d (l0 hd)),List.length_take];omega
   obtain⟨d,hd⟩:∃ d,d=l[k]:=⟨_,rfl⟩;rw[<-hd] at hxl hc1' htk;clear hd hc1;obtain⟨ys,hys⟩:∃ ys,ys=pn++(l.take k).flatten:=⟨_,rfl⟩;have hyl:ys.length<=32000010:=by rw[hys,lT];omega
   rw[<-hys] at hF;replace hys:=iD hys;have i1:(0:Int)<=(k:Int):=by omega
   have i2:(k:Int)<(l.length:Int):=by omega
   have hs1:=iD (Zg hxl);go_upto_region 5 with (first
    | (refine wpList_load_mid rfl 59 (.tmp 14) rfl b1 (o1+k*32) rfl (d.map B) _ hc1'.out underlying59 rfl hs1.out ?_;go_frame)
    | (refine Zd rfl 59 (.tmp 5) (.tmp 15) rfl wr.heap.size (d.map B) rfl rfl 59 Z2 (Blk.new_at rfl) (by simp[Z2,hxl]) hs1.out (Y5 _) ?_;go_frame)
    | fail)
   generalize hW4:lV _ wr.heap.size (d.map B).toArray=w4;have hD4:Blk w4 wr.heap.size 59 (d.map B):=by rw[<-hW4];exact (Blk.new_at (cs:=Z2) rfl).setRow_same (d.map B)
   have hb4:Below wr.heap.size wr w4:=by rw[<-hW4];exact below_setRow bL (lF _) (d.map B).toArray
   have hF4:=hF.below hb4;have hb04:=hb.trans (hb4.mono hsz);have hsl:(nC 59 (.pointer (some ⟨wr.heap.size,0,none⟩)) none none none).run lC w4=.ok (.slice (some ⟨wr.heap.size,0,none⟩) 32 32) w4:=by kernel_rfl
   have hDR:Rd w4 (fun _=>True) (some ⟨wr.heap.size,0,none⟩) (d.map B):=Rd.of_blk (r:=[]) hD4 (by simp) trivial;have hz4:=hb04.size;obtain⟨FA,fc,rfl,_⟩:=hF4.form;clear hW4 hb4 hF hD4 hc1' hb;replace hF4:=iD hF4;replace hDR:=iD hDR;replace hb04:=iD hb04;refine lW ?_;refine Y2 (.move (.tmp 3)) rfl rfl (.slice FA ys.length fc) rfl ?_;go_frame;refine J5 rfl _ (Zad 59 (.tmp 5) rfl _ _ rfl hsl) ?_;go_frame;refine Za2 rfl (.tmp 16) (.tmp 17) rfl w.heap.size _ ys rfl hF4.out (fun _=>True) (some ⟨wr.heap.size,0,none⟩) 32 d (by rw[hxl];rfl) hDR.out (by omega) (by omega) hz4 ?_;intro v5 w5 hF5 hg5 hv5;have hb5:Below w.heap.size w4 w5:=(lJ _ _).grown hg5 hz4 (fun b hb=>by
    rcases hF4.out with ⟨h1,_⟩ | ⟨g,cap,cs,fz,h1,h2,_⟩
    ·rw[h1] at hb;cases hb
    ·rw[h1] at hb;have hgb:g=b:=Option.some.inj hb;omega)
   have hb05:=hb04.out.trans hb5;obtain⟨GA,gc,rfl,_⟩:=hF5.form;clear hg5 hv5 hb5;replace hF5:=iD hF5;replace hb05:=iD hb05;go_frame;refine Y2 (.assign (.tmp 18)) rfl rfl (.slice GA (ys++d).length gc) rfl ?_;go_frame;refine wpList_nil ?_;go_wp2_with fail;go_roundw
   case rel=>exact⟨k+1,by omega,by go_num,by rw[htk.out,<-nA,<-hys.out];exact hF5.out,hb05.out⟩
   case measure=>simp[intOf];omega
  ·obtain rfl:k=l.length:=by omega
   rw[List.take_length] at hF;obtain⟨FA,fc,rfl,_⟩:=hF.form;obtain⟨zs,hzs⟩:∃ zs,zs=pn++l.flatten:=⟨_,rfl⟩;rw[<-hzs] at hF;have hR:=iD hF.rd;replace hzs:=iD hzs;replace hF:=iD hF;go_wp2_with (first
    | (refine Qf rfl 57 9 (.tmp 20) rfl 5 underlying57 underlying5 underlying9 FA zs fc (by rw[hzs.out];rfl) hR.out ?_;go_frame)
    | fail)
   go_ret;exact⟨by rw[<-hzs.out];rfl,hb⟩
end
section
set_option maxRecDepth 100000
set_option maxHeartbeats 8000000
open Go.Lib renaming hid → iD
open Go.Proofs.Tryz
open Go.RowKit Go.Maps Go.MapKept Go.ChangeMaps
def intK(v:Value):Prop:=∃ l,keyOf lC 3 v=some l
theorem Vz:KeyOk lC 3 intK:=KeyOk.of_keyed (int_keyed underlying3)
theorem Vh{n:Int}(h:(l3 .i64 n).wf=true):intK (.int .i64 n):=⟨_,keyOf_int_mk underlying3 h⟩
def Us(k:Int):List Value:=[.bool (Vo k),.bool (Jp k),.bool (Jp k),.bool (Kg k)]
def Ut(k:Int):Bool:=decide (1<=k/\k<=4)
def Jj(n:Nat):List (Value × Value):=[((.int .i64 1:Value),Value.agg #[.bool true,.bool false,.bool false,.bool false]),(.int .i64 2,.agg #[.bool false,.bool true,.bool true,.bool true]),(.int .i64 3,.agg #[.bool true,.bool true,.bool true,.bool false]),(.int .i64 4,.agg #[.bool false,.bool false,.bool false,.bool true])].take n
theorem U0(n:Nat):∀ p ∈ Jj n,intK p.1:=fun p hp=>by
 have:=l0 hp;simp only[lY,lZ,or_false] at this;rcases this with rfl | rfl | rfl | rfl <;> exact Vh (by decide)
theorem Zaf:(lC.info? 198).map (·.size)=some 4:=by kernel_rfl
theorem Zkx(w:World):(zeroValue 198).run lC w=.ok (.agg #[.bool false,.bool false,.bool false,.bool false]) w:=by kernel_rfl
theorem Zky{w:World}{b:Nat}(h:Z8 w b (Jj 4))(k:Int)(hk:(l3 .i64 k).wf=true) :
  (Instr.lookup 320 (.map (some b)) (.int .i64 k) true).run lC w=.ok (.tuple #[.agg (Us k).toArray,.bool (Ut k)]) w:=by
 have ne:∀ x y:Int,x ≠ y->(Value.int .i64 x) ≠ .int .i64 y:=fun x y h e=>by injection e with _ e;exact h e
 by_cases h1:k=1
 ·subst h1;exact h.look_some Vz underlying320 (U0 4) (Vh hk) (v:=.agg #[.bool true,.bool false,.bool false,.bool false]) (by simp[Jj]) (by simp[Jj]) true
 ·by_cases h2:k=2
  ·subst h2;exact h.look_some Vz underlying320 (U0 4) (Vh hk) (v:=.agg #[.bool false,.bool true,.bool true,.bool true]) (by simp[Jj]) (by simp[Jj]) true
  ·by_cases h3:k=3
   ·subst h3;exact h.look_some Vz underlying320 (U0 4) (Vh hk) (v:=.agg #[.bool true,.bool true,.bool true,.bool false]) (by simp[Jj]) (by simp[Jj]) true
   ·by_cases h4:k=4
    ·subst h4;exact h.look_some Vz underlying320 (U0 4) (Vh hk) (v:=.agg #[.bool false,.bool false,.bool false,.bool true]) (by simp[Jj]) (by simp[Jj]) true
    ·have e1:Ut k=false:=by unfold Ut;exact decide_eq_false (by omega)
     have e2:Us k=[.bool false,.bool false,.bool false,.bool false]:=by simp[Us,Vo,Jp,Kg,h1,h2,h3,h4]
     rw[e1,e2];exact h.look_none Vz underlying320 (Zkx w) (U0 4) (Vh hk) (fun p hp=>by
      have:=l0 hp;simp only[lY,lZ,or_false] at this;rcases this with rfl | rfl | rfl | rfl
      ·exact ne _ _ (fun e=>h1 e.symm)
      ·exact ne _ _ (fun e=>h2 e.symm)
      ·exact ne _ _ (fun e=>h3 e.symm)
      ·exact ne _ _ (fun e=>h4 e.symm)) true
theorem Zkz(k:Int)(hk:(l3 .i64 k).wf=true)(w:World):Calls lC 135 #[.int .i64 k] w fun e w'=>e=.returned (.tuple #[.agg (Us k).toArray,.bool (Ut k)])/\Below w.heap.size w w':=by
 have hmm:=@run_makeMap lC;generalize hW0:(w.alloc (.cells #[.bool false,.bool false,.bool false,.bool false] 198)).alloc (.map #[] 0)=w0;have hB0:Blk w0 w.heap.size 198 [.bool false,.bool false,.bool false,.bool false]:=by rw[<-hW0];exact (Blk.new_at (cs:=[_,_,_,_]) rfl).alloc _
 have hM0:Z8 w0 (w.heap.size+1) (Jj 0):=by rw[<-hW0,show Jj 0=[] from rfl];simpa using Z8.new (w.alloc (.cells #[.bool false,.bool false,.bool false,.bool false] 198))
 have hb0:Below w.heap.size w w0:=by rw[<-hW0];exact bL.alloc (by simp) _
 obtain⟨w1,r0,hM1,hT1⟩:=hM0.store Vz underlying320 (U0 0) (key:=.int .i64 1) (Vh (by decide)) (by simp[Jj]) (.agg #[.bool true,.bool false,.bool false,.bool false]);obtain⟨w2,r1,hM2,hT2⟩:=Z8.store (es:=Jj 1) hM1 Vz underlying320 (U0 1) (key:=.int .i64 2) (Vh (by decide)) (by simp[Jj]) (.agg #[.bool false,.bool true,.bool true,.bool true]);obtain⟨w3,r2,hM3,hT3⟩:=Z8.store (es:=Jj 2) hM2 Vz underlying320 (U0 2) (key:=.int .i64 3) (Vh (by decide)) (by simp[Jj]) (.agg #[.bool true,.bool true,.bool true,.bool false]);obtain⟨w4,r3,hM4,hT4⟩:=Z8.store (es:=Jj 3) hM3 Vz underlying320 (U0 3) (key:=.int .i64 4) (Vh (by decide)) (by simp[Jj]) (.agg #[.bool false,.bool false,.bool false,.bool true]);have hT:Touch [w.heap.size+1] w0 w4:=(Kz hT1).trans ((Kz hT2).trans ((Kz hT3).trans (Kz hT4) (fun i hi=>.inl hi)) (fun i hi=>.inl hi)) (fun i hi=>.inl hi);have hlk:=Zky (show Z8 w4 _ (Jj 4) from hM4) k hk;have hs0:w.heap.size+2=w0.heap.size:=by rw[<-hW0];simp
 have hs4:w0.heap.size<=w4.heap.size:=hT.size;have hB4:=iD (hB0.touch hT (by simp));have hb4:=hb0.trans (hT.below (by omega) (by simp));clear hM0 hM1 hM2 hM3 hM4 hT1 hT2 hT3 hT4 hT hB0 hb0 hs0;obtain⟨fv,hfv⟩:∃ fv,fv=Us k:=⟨_,rfl⟩;have hfl:fv.length=4:=by rw[hfv];rfl
 have hfz:Hid ((lC.info? 198).map (·.size)=some fv.length):=iD (by rw[hfl];exact Zaf);have hfo:Hid (∀ v ∈ fv,v.oneCell'=true):=iD (by rw[hfv];simp[Us,nB]);obtain⟨ob,hob⟩:∃ ob,ob=Ut k:=⟨_,rfl⟩;rw[<-hfv,<-hob] at hlk ⊢;replace hfv:=iD hfv;replace hob:=iD hob;clear hk;go_enter func135,ntmps135;go_upto_region 2 with (first
  | (refine Zd rfl 198 (.tmp 4) (.tmp 15) rfl w4.heap.size fv rfl rfl 198 [.bool false,.bool false,.bool false,.bool false] (Blk.new_at (cs:=[.bool false,.bool false,.bool false,.bool false]) rfl) (by rw[hfl];rfl) hfz.out hfo.out ?_;go_frame)
  | fail)
 generalize hW5:lV _ w4.heap.size fv.toArray=w5;have hC5:Blk w5 w4.heap.size 198 fv:=by rw[<-hW5];exact (Blk.new_at (cs:=[.bool false,.bool false,.bool false,.bool false]) rfl).setRow_same fv
 have hb5:Below w4.heap.size w4 w5:=by rw[<-hW5];exact below_setRow bL (lF _) fv.toArray
 have hB5:=hB4.out.below hb5 hB4.out.lt;have hb05:=hb4.trans (hb5.mono hb4.size);clear hW5 hB4 hb5 r0 r1 r2 r3 hlk hW0;replace hC5:=iD hC5;replace hB5:=iD hB5;go_wp2_with (first
  | (refine Zy rfl 198 (.tmp 4) rfl w4.heap.size rfl 198 fv hC5.out _ underlying198 rfl hfz.out ?_;go_frame)
  | (refine Zd rfl 198 (.tmp 2) (.tmp 17) rfl w.heap.size fv rfl rfl 198 [.bool false,.bool false,.bool false,.bool false] hB5.out (by rw[hfl];rfl) hfz.out hfo.out ?_;go_frame)
  | fail)
 refine Kd rfl w.heap.size 198 fv _ (.bool ob) rfl rfl (hB5.out.setRow_same _) underlying198 rfl hfz.out rfl ⟨rfl,below_setRow hb05 (lF _) _⟩
end
end Go.Proofs.YtefjlobdifjogaaGreatDoor
