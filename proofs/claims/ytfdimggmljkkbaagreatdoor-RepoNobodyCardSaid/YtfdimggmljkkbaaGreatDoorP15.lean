import Derived.Test.YtfdimggmljkkbaaGreatDoorP14
import Derived.OrdersIn
import Derived.Test.YtfdimggmljkkbaaGreatDoorP10
open Array renaming getElem?_eq_some_iff → lB
open Go.Fence renaming wide → lF
open Go.Proofs.Tryz renaming prog → lA
open Go.RowKit.Below renaming heap_alloc → lG
open Go.World renaming putObj_heap_other → lC, alloc_heap_new → lD, putObj_heap_same → lE
namespace Go.Proofs.YtfdimggmljkkbaaGreatDoor
section
open Go.RowKit
theorem Zke(l:List POp):∀ v ∈ X5 l,v.oneCell'=true:=by
 intro v hv;obtain⟨x,_,hx⟩:=List.mem_flatMap.1 hv;exact Uj x v hx
end
section

end
section

end
section

end
section
open Go.RowKit
def Fr(w:World)(b:Nat):Prop:=∃ t cs,Blk w b t cs/\t ≠ 164/\t ≠ 64/\t ≠ 224/\t ≠ 32
def J9:Obj->Bool
 | .deferred _=>true
 | .loop _=>true
 | _=>false
theorem On{W:World}{k:Nat}{o:Obj}(h:W.heap[k]?=some o):k<W.heap.size:=(lB.1 h).1
theorem Gh{W W':World}{L:List Nat}{k:Nat}{o:Obj}(ht:Touch L W W')(h:W.heap[k]?=some o)(hn:k ∉ L):W'.heap[k]?=some o:=(ht.block k (On h) hn).trans h
theorem Uq{W:World}{k:Nat}{o:Obj}{t:TypeId}{cs:List Value}(h:W.heap[k]?=some o)(hm:J9 o=true):¬ Blk W k t cs:=fun hB=>by
 unfold Blk at hB;rw[h] at hB
 injection hB with hB
 subst hB;cases hm
theorem Zaw{W:World}{k:Nat}{o:Obj}{D:DM}(h:W.heap[k]?=some o)(hm:J9 o=true):¬ Zq W k D:=fun hB=>by
 obtain⟨es,c,h'⟩:=hB.at;rw[h] at h'
 injection h' with h'
 subst h';cases hm
theorem Zax{W:World}{g bn bs:Nat}{pv:Value}{S:DS}(hD:DiskAt W g bn bs pv S){k:Nat}{o:Obj}(h:W.heap[k]?=some o)(hm:J9 o=true):k ∉ Zh g bn bs pv:=fun hf=>by
 rcases DiskAt.mem_foot hf with rfl | rfl | rfl | e
 ·exact Uq h hm hD.blk
 ·exact Zaw h hm hD.now
 ·exact Zaw h hm hD.sure
 ·obtain⟨vs,ho,_⟩:=hD.row;obtain⟨cs,hB⟩:=Z37 ho k e;exact Uq h hm hB
structure KeepsR (W W':World):Prop where
 blk:∀ k t cs,Blk W k t cs->t ≠ 164->t ≠ 64->t ≠ 224->t ≠ 32->Blk W' k t cs
 mark:∀ (k:Nat) (o:Obj),W.heap[k]?=some o->J9 o=true->W'.heap[k]?=some o
structure KeepsC (ic:Nat) (W W':World):Prop where
 blk:∀ k t cs,Blk W k t cs->t ≠ 164->t ≠ 64->t ≠ 224->t ≠ 32->k ≠ ic->Blk W' k t cs
 mark:∀ (k:Nat) (o:Obj),W.heap[k]?=some o->J9 o=true->W'.heap[k]?=some o
theorem KeepsR.disk{W W':World}{g bn bs:Nat}{pv:Value}{S:DS}(hD:DiskAt W g bn bs pv S)(ht:Touch (Zh g bn bs pv) W W'):KeepsR W W' :=
 ⟨fun k t cs hB a b c _=>Gf.touch hD ht k t cs hB a b c,fun _ _ h hm=>Gh ht h (Zax hD h hm)⟩
theorem KeepsR.names{W W':World}{g bn bs rb:Nat}{pv:Value}{S:DS}{cs:List Value}(hD:DiskAt W g bn bs pv S)(hR:Blk W rb 164 cs)(ht:Touch (rb :: Zh g bn bs pv) W W')(hk:Gf W W'):KeepsR W W' :=
 ⟨fun k t cs hB a b c _=>hk k t cs hB a b c,fun k _ h hm=>Gh ht h (fun hf=>by
  rcases List.mem_cons.1 hf with rfl | hf
  ·exact Uq h hm hR
  ·exact Zax hD h hm hf)⟩
theorem KeepsR.one{W W':World}{i:Nat}{t:TypeId}{cs:List Value}(hB:Blk W i t cs)(ht:Touch [i] W W')(h:t=32):KeepsR W W' :=
 ⟨fun k t' cs' hB' a b c d=>hB'.touch ht (fun hm=>by
  obtain rfl:k=i:=by simpa using hm
  exact d ((hB'.unique hB).trans h)),fun k _ h hm=>Gh ht h (fun hf=>by
  obtain rfl:k=i:=by simpa using hf
  exact Uq h hm hB)⟩
theorem KeepsR.below{W W':World}(h:Below W.heap.size W W'):KeepsR W W':=⟨fun _ _ _ hB _ _ _ _=>hB.below h hB.lt,fun k _ ho _=>(h.block k (On ho)).trans ho⟩
theorem KeepsR.trans{A B C:World}(h:KeepsR A B)(h':KeepsR B C):KeepsR A C:=⟨fun k t cs hB a b c d=>h'.blk k t cs (h.blk k t cs hB a b c d) a b c d,fun k o ho hm=>h'.mark k o (h.mark k o ho hm) hm⟩
theorem KeepsR.heap{W W':World}(h:KeepsR W W'){b:Nat}(hb:Fr W b):W'.heap[b]?=W.heap[b]?:=by
 obtain⟨t,cs,hB,h1,h2,h3,h4⟩:=hb;have h':=h.blk b t cs hB h1 h2 h3 h4;exact Eq.trans h' (Eq.symm hB)
theorem KeepsR.fr{W W':World}(h:KeepsR W W'){b:Nat}(hb:Fr W b):Fr W' b:=by
 obtain⟨t,cs,hB,h1,h2,h3,h4⟩:=hb;exact⟨t,cs,h.blk b t cs hB h1 h2 h3 h4,h1,h2,h3,h4⟩
theorem KeepsR.chs{W W':World}(h:KeepsR W W'){v:Value}{l:List Chg}(hO:Yz W (Fr W) v l):Yz W' (Fr W') v l:=hO.stay (fun _ hb _=>h.heap hb) (fun _ hb _=>h.fr hb)
end
section
open Go.RowKit Go.Shelf
attribute [local go_sem] Oper.semAt_some
structure KeepM (W W':World):Prop where
 same:∀ (k:Nat) (o:Obj),W.heap[k]?=some o->J9 o=true->W'.heap[k]?=some o
theorem KeepM.below{W W':World}(h:Below W.heap.size W W'):KeepM W W':=⟨fun k _ ho _=>(h.block k (On ho)).trans ho⟩
end
section
set_option maxHeartbeats 4000000
open Go.RowKit Go.Shelf
def Zay{α:Type}(Kp:World->World->Prop)(I:List α->World->Prop)(xs:List α)(W:World):Exit->Act->World->Prop
 | .normal,_,W'=>KeepM W W'/\Kp W W'/\I xs W'
 | _,_,_=>False
def Yields{α:Type}(f:FuncId)(caps:Array Value)(Enc:α->Array Value->World->Prop)(xs:List α)(Kq Kp:World->World->Prop)(w:World):Prop :=
 ∀ (l:Nat) (J:List α->World->Prop) (W:World),Below w.heap.size w W->(∀ pre A B,J pre A->Kq A B->J pre B) ->
  (∀ pre x r vs A,J pre A->xs=pre++x :: r->Enc x vs A->YieldAt lF (0 - 1 - 1) lA l vs A fun e B=>e=.returned (.bool true)/\J (pre++[x]) B/\Kp A B)->J [] W ->
  CallsIn lF (0 - 1) lA f (#[.func (.yield l) #[] #[]]++caps) W fun e W'=>(∃ v,e=.returned v)/\J xs W'
theorem Zp6{α:Type}{g:Operand}{ps:Array Tmp}{assign body:Code}{Q:Exit->Act->World->Prop}{a:Act}{w:World}(f:FuncId)(caps:Array Value)(Enc:α->Array Value->World->Prop)(xs:List α)(Kq Kp:World->World->Prop)
  (hg:a.eval g=.func (.func f) #[] caps) (hcf:∀ args W,(callFunc f args).run lA W=.ok (.enter f args) W) (hps:∀ x vs W,Enc x vs W->vs.size=ps.size) (hEm:∀ x vs A l (o o':Obj),Enc x vs A->w.heap.size<=l->A.heap[l]?=some o->J9 o=true->Enc x vs (A.putObj l o')) (hy:Yields f caps Enc xs Kq Kp w)
  (hqm:∀ A B,Kq A B->KeepM A B) (hpt:∀ A B C,Kp A B->Kp B C->Kp A C) (hpm:∀ A l (o o':Obj),w.heap.size<=l->A.heap[l]?=some o->J9 o=true->Kp A (A.putObj l o'))
  (I:List α->World->Prop) (hIq:∀ pre A B,I pre A->Kq A B->I pre B) (hIm:∀ pre A l (o o':Obj),I pre A->w.heap.size<=l->A.heap[l]?=some o->J9 o=true->I pre (A.putObj l o'))
  (hIa:∀ o1 o2,J9 o1=true->J9 o2=true->I [] ((w.alloc o1).alloc o2)) (a₁:Array Value->Act)
  (hassign:∀ (l:Nat) (vs:Array Value) (W:World) (K:Act->World->Prop),vs.size=ps.size->K (a₁ vs) W ->
   assign.wpIn (lF.inRound l) 0 lA (Exit.then K (fun _ _ _=>False)) { tmps:=(ps.zip vs).foldl (fun t (p,v)=>t.setIfInBounds p v) a.tmps,defers:=[] } W)
  (hbody:∀ (l:Nat) (pre:List α) (x:α) (r:List α) (vs:Array Value) (W:World),I pre W->xs=pre++x :: r->Enc x vs W->body.wpIn (lF.inRound l) 0 lA (Zay Kp I (pre++[x]) W) (a₁ vs) W)
  (hdone:∀ (D:Nat) (W:World),w.heap.size<=D->I xs W->W.heap[D]?=some (.deferred (some []))->Q .normal { a with defers:={ target:=.collected D,args:=#[] } :: a.defers } W) :
  (Code.rangeFunc g ps assign body).wp lA Q a w:=by
 refine (wpIn_wide (n:=0)).1 (wpIn_rangeFunc ?_);intro fn hfn;rw[show lF.round=none from rfl];obtain⟨rec,hrec⟩:∃ rec:LoopState->Option Code->Loop,rec=fun st pe=>{ state:=st,pending:=pe,fn,tmps:=a.tmps,params:=ps,assign,body,defers:=w.heap.size }:=⟨_,rfl⟩;obtain⟨W1,hW1⟩:∃ W1,(w.alloc (.deferred (some []))).alloc (.loop (rec .ready none))=W1:=⟨_,rfl⟩;have hL1:W1.heap[w.heap.size+1]?=some (.loop (rec .ready none)):=by
  rw[<-hW1];have:=lD (w.alloc (.deferred (some []))) (.loop (rec .ready none));rwa [World.size_alloc] at this
 have hK1:W1.heap[w.heap.size]?=some (.deferred (some [])):=by
  rw[<-hW1];exact (lG _ _ _ (by simp)).trans (lD w _)
 have hI1:I [] W1:=by rw[<-hW1];exact hIa _ _ rfl rfl
 have hb1:Below w.heap.size w W1:=by rw[<-hW1];exact bL.alloc (by simp) _
 refine⟨w.heap.size+1,[{ target:=.collected w.heap.size,args:=#[] }],W1,{ target:=.fn (.func f) caps,args:=#[.func (.yield (w.heap.size+1)) #[] #[]] },W1,f,
  #[.func (.yield (w.heap.size+1)) #[] #[]]++caps,W1,?_,?_,?_,?_,fun h=>(by cases h),?_⟩
 ·rw[<-hW1,hrec];exact run_enterLoop_outer _ _ _ _ _
 ·simp only[resolve,hg];simp[go_sem]
 ·exact fun _ _=>trivial
 ·simp only[invoke];exact hcf _ _
 ·refine (hy (w.heap.size+1) (fun pre W=>I pre W/\W.heap[w.heap.size+1]?=some (.loop (rec .ready none))/\W.heap[w.heap.size]?=some (.deferred (some []))) W1 hb1 ?_ ?_ ⟨hI1,hL1,hK1⟩).mono ?_
  ·rintro pre A B ⟨hi,hl,hk⟩ hq;exact⟨hIq _ _ _ hi hq,(hqm _ _ hq).same _ _ hl rfl,(hqm _ _ hq).same _ _ hk rfl⟩
  ·rintro pre x r vs W ⟨hi,hl,hk⟩ hr he;have hlt:w.heap.size+1<W.heap.size:=(lB.1 hl).1;have hy:=run_yield (P:=lA) (args:=vs) hl (by rw[hrec];simp[hps _ _ _ he]);rw[hrec] at hy;refine⟨fn,_,assign,body,hy,roundIn_of_wpIn hfn (hassign _ vs W _ (hps _ _ _ he) ⟨_,run_beginRound hl (by rw[hrec]),?_⟩)⟩;have hl2:(W.putObj (w.heap.size+1) (.loop { rec .ready none with state:=.busy })).heap[w.heap.size+1]?=some (.loop { rec .ready none with state:=.busy }):=lE hlt;have hk2:(W.putObj (w.heap.size+1) (.loop { rec .ready none with state:=.busy })).heap[w.heap.size]?=some (.deferred (some [])):=(lC (by omega)).trans hk;have hw2:Kp W (W.putObj (w.heap.size+1) (.loop { rec .ready none with state:=.busy })):=hpm _ _ _ _ (by omega) hl rfl;refine wpIn_mono (hbody _ pre x r vs _ (hIm _ _ _ _ _ hi (by omega) hl rfl) hr (hEm _ _ _ _ _ _ he (by omega) hl rfl)) ?_;have fin:∀ (W3:World),KeepM (W.putObj (w.heap.size+1) (.loop { rec .ready none with state:=.busy })) W3 ->
     (Instr.endRound (w.heap.size+1) none).run lA W3=.ok (.bool true) (W3.putObj (w.heap.size+1) (.loop (rec .ready none))) /\
     W3.heap[w.heap.size+1]?=some (.loop { rec .ready none with state:=.busy }) /\
     (W3.putObj (w.heap.size+1) (.loop (rec .ready none))).heap[w.heap.size+1]?=some (.loop (rec .ready none)) /\
     (W3.putObj (w.heap.size+1) (.loop (rec .ready none))).heap[w.heap.size]?=some (.deferred (some [])):=fun W3 hk3=>by
    have hl3:=hk3.same _ _ hl2 rfl;have:=run_endRound (P:=lA) none hl3;rw[hrec] at this ⊢;exact⟨this,by rw[hrec] at hl3;exact hl3,lE (lB.1 hl3).1,(lC (by omega)).trans (hk3.same _ _ hk2 rfl)⟩
   rintro e a3 W3 hp;cases e with
   | normal =>
    obtain⟨hk3,hkp3,hi3⟩:=hp;obtain⟨hr,hl3,hl4,hk4⟩:=fin W3 hk3;exact⟨_,_,hr,rfl,⟨hIm _ _ _ _ _ hi3 (by omega) hl3 rfl,hl4,hk4⟩,hpt _ _ _ (hpt _ _ _ hw2 hkp3) (hpm _ _ _ _ (by omega) hl3 rfl)⟩
   | ret=>exact hp.elim
   | exit id=>exact hp.elim
   | goto t=>exact hp.elim
   | panic ch=>exact hp.elim
   | outgrown=>exact hp.elim
  ·rintro e W2 ⟨⟨v,rfl⟩,hi,hl,hk⟩;exact⟨none,_,by have:=run_endLoop (P:=lA) hl (by rw[hrec];simp);rw[hrec] at this;exact this,hdone _ _ (Nat.le_refl _) (hIm _ _ _ _ _ hi (by omega) hl rfl) ((lC (by omega)).trans hk)⟩
theorem Zkf{α:Type}{g:Operand}{ps:Array Tmp}{assign body:Code}{Q:Exit->Act->World->Prop}{a:Act}{w:World}(f:FuncId)(caps:Array Value)(Enc:α->Array Value->World->Prop)(xs:List α)(Kq Kp:World->World->Prop)
  (hg:a.eval g=.func (.func f) #[] caps) (hcf:∀ args W,(callFunc f args).run lA W=.ok (.enter f args) W) (hps:∀ x vs W,Enc x vs W->vs.size=ps.size)  (hy:Yields f caps Enc xs Kq Kp w)
  (hqm:∀ A B,Kq A B->KeepM A B) (hpt:∀ A B C,Kp A B->Kp B C->Kp A C) (hpm:∀ A l (o o':Obj),w.heap.size<=l->A.heap[l]?=some o->J9 o=true->Kp A (A.putObj l o'))
  (I:List α->World->Prop) (hIq:∀ pre A B,I pre A->Kq A B->I pre B) (hIm:∀ pre A l (o o':Obj),I pre A->w.heap.size<=l->A.heap[l]?=some o->J9 o=true->I pre (A.putObj l o'))
  (hIa:∀ o1 o2,J9 o1=true->J9 o2=true->I [] ((w.alloc o1).alloc o2)) (Ia:List α->α->Act->World->Prop) (hIam:∀ pre x a' A l (o o':Obj),Ia pre x a' A->w.heap.size<=l->A.heap[l]?=some o->J9 o=true->Ia pre x a' (A.putObj l o'))
  (hassign:∀ (l:Nat) (pre:List α) (x:α) (r:List α) (vs:Array Value) (W:World) (K:Act->World->Prop),I pre W->xs=pre++x :: r->Enc x vs W->(∀ a' W',KeepM W W'->Kp W W'->Ia pre x a' W'->K a' W') ->
   assign.wpIn (lF.inRound l) 0 lA (Exit.then K (fun _ _ _=>False)) { tmps:=(ps.zip vs).foldl (fun t (p,v)=>t.setIfInBounds p v) a.tmps,defers:=[] } W)
  (hbody:∀ (l:Nat) (pre:List α) (x:α) (r:List α) (a':Act) (W:World),Ia pre x a' W->xs=pre++x :: r->body.wpIn (lF.inRound l) 0 lA (Zay Kp I (pre++[x]) W) a' W)
  (hdone:∀ (D:Nat) (W:World),w.heap.size<=D->I xs W->W.heap[D]?=some (.deferred (some []))->Q .normal { a with defers:={ target:=.collected D,args:=#[] } :: a.defers } W) :
  (Code.rangeFunc g ps assign body).wp lA Q a w:=by
 refine (wpIn_wide (n:=0)).1 (wpIn_rangeFunc ?_);intro fn hfn;rw[show lF.round=none from rfl];obtain⟨rec,hrec⟩:∃ rec:LoopState->Option Code->Loop,rec=fun st pe=>{ state:=st,pending:=pe,fn,tmps:=a.tmps,params:=ps,assign,body,defers:=w.heap.size }:=⟨_,rfl⟩;obtain⟨W1,hW1⟩:∃ W1,(w.alloc (.deferred (some []))).alloc (.loop (rec .ready none))=W1:=⟨_,rfl⟩;have hL1:W1.heap[w.heap.size+1]?=some (.loop (rec .ready none)):=by
  rw[<-hW1];have:=lD (w.alloc (.deferred (some []))) (.loop (rec .ready none));rwa [World.size_alloc] at this
 have hK1:W1.heap[w.heap.size]?=some (.deferred (some [])):=by
  rw[<-hW1];exact (lG _ _ _ (by simp)).trans (lD w _)
 have hI1:I [] W1:=by rw[<-hW1];exact hIa _ _ rfl rfl
 have hb1:Below w.heap.size w W1:=by rw[<-hW1];exact bL.alloc (by simp) _
 refine⟨w.heap.size+1,[{ target:=.collected w.heap.size,args:=#[] }],W1,{ target:=.fn (.func f) caps,args:=#[.func (.yield (w.heap.size+1)) #[] #[]] },W1,f,
  #[.func (.yield (w.heap.size+1)) #[] #[]]++caps,W1,?_,?_,?_,?_,fun h=>(by cases h),?_⟩
 ·rw[<-hW1,hrec];exact run_enterLoop_outer _ _ _ _ _
 ·simp only[resolve,hg];simp[go_sem]
 ·exact fun _ _=>trivial
 ·simp only[invoke];exact hcf _ _
 ·refine (hy (w.heap.size+1) (fun pre W=>I pre W/\W.heap[w.heap.size+1]?=some (.loop (rec .ready none))/\W.heap[w.heap.size]?=some (.deferred (some []))) W1 hb1 ?_ ?_ ⟨hI1,hL1,hK1⟩).mono ?_
  ·rintro pre A B ⟨hi,hl,hk⟩ hq;exact⟨hIq _ _ _ hi hq,(hqm _ _ hq).same _ _ hl rfl,(hqm _ _ hq).same _ _ hk rfl⟩
  ·rintro pre x r vs W ⟨hi,hl,hk⟩ hr he;have hlt:w.heap.size+1<W.heap.size:=(lB.1 hl).1;have hy:=run_yield (P:=lA) (args:=vs) hl (by rw[hrec];simp[hps _ _ _ he]);rw[hrec] at hy;refine⟨fn,_,assign,body,hy,roundIn_of_wpIn hfn (hassign _ pre x r vs W _ hi hr he (fun a' Wa hka hpa hia=>?_))⟩;have hla:=hka.same _ _ hl rfl;have hlka:=hka.same _ _ hk rfl;have hlta:w.heap.size+1<Wa.heap.size:=(lB.1 hla).1;refine⟨_,run_beginRound hla (by rw[hrec]),?_⟩;have hl2:(Wa.putObj (w.heap.size+1) (.loop { rec .ready none with state:=.busy })).heap[w.heap.size+1]?=some (.loop { rec .ready none with state:=.busy }):=lE hlta;have hk2:(Wa.putObj (w.heap.size+1) (.loop { rec .ready none with state:=.busy })).heap[w.heap.size]?=some (.deferred (some [])):=(lC (by omega)).trans hlka;have hw2:Kp Wa (Wa.putObj (w.heap.size+1) (.loop { rec .ready none with state:=.busy })):=hpm _ _ _ _ (by omega) hla rfl;refine wpIn_mono (hbody _ pre x r a' _ (hIam _ _ _ _ _ _ _ hia (by omega) hla rfl) hr) ?_;have fin:∀ (W3:World),KeepM (Wa.putObj (w.heap.size+1) (.loop { rec .ready none with state:=.busy })) W3 ->
     (Instr.endRound (w.heap.size+1) none).run lA W3=.ok (.bool true) (W3.putObj (w.heap.size+1) (.loop (rec .ready none))) /\
     W3.heap[w.heap.size+1]?=some (.loop { rec .ready none with state:=.busy }) /\
     (W3.putObj (w.heap.size+1) (.loop (rec .ready none))).heap[w.heap.size+1]?=some (.loop (rec .ready none)) /\
     (W3.putObj (w.heap.size+1) (.loop (rec .ready none))).heap[w.heap.size]?=some (.deferred (some [])):=fun W3 hk3=>by
    have hl3:=hk3.same _ _ hl2 rfl;have:=run_endRound (P:=lA) none hl3;rw[hrec] at this ⊢;exact⟨this,by rw[hrec] at hl3;exact hl3,lE (lB.1 hl3).1,(lC (by omega)).trans (hk3.same _ _ hk2 rfl)⟩
   rintro e a3 W3 hp;cases e with
   | normal =>
    obtain⟨hk3,hkp3,hi3⟩:=hp;obtain⟨hr,hl3,hl4,hk4⟩:=fin W3 hk3;exact⟨_,_,hr,rfl,⟨hIm _ _ _ _ _ hi3 (by omega) hl3 rfl,hl4,hk4⟩,hpt _ _ _ (hpt _ _ _ (hpt _ _ _ hpa hw2) hkp3) (hpm _ _ _ _ (by omega) hl3 rfl)⟩
   | ret=>exact hp.elim
   | exit id=>exact hp.elim
   | goto t=>exact hp.elim
   | panic ch=>exact hp.elim
   | outgrown=>exact hp.elim
  ·rintro e W2 ⟨⟨v,rfl⟩,hi,hl,hk⟩;exact⟨none,_,by have:=run_endLoop (P:=lA) hl (by rw[hrec];simp);rw[hrec] at this;exact this,hdone _ _ (Nat.le_refl _) (hIm _ _ _ _ _ hi (by omega) hl rfl) ((lC (by omega)).trans hk)⟩
end
section
open Go.RowKit Go.Shelf
attribute [local go_sem] Oper.semAt_some
end
end Go.Proofs.YtfdimggmljkkbaaGreatDoor
