import Derived.Test.YtfdimggmljkkbaaGreatDoorP02
import Derived.ChangeKeysEq
import Derived.Laws.EntriesVeiled
import Derived.Lib.Builder
import Derived.Deep.RegionWith
open Array renaming getElem?_eq_some_iff → l0
open Go renaming run_underlying → lC, run_equalIn_int → lP
open Go.Builtin renaming len_ → l2
open Go.Instr renaming findAsking → lF, lookup → lK, checkKey → lQ, mapUpdate → l1
open Go.Lib renaming strCells → l5
open Go.MapKept renaming run_getObj_map → lL
open Go.Op renaming equalIn → lD
open Go.Proofs.Tryz renaming prog → lA
open Go.Result renaming andThen → lH, andThen_ok → lO
open Go.RowKit.Below renaming refl → lS
open Go.Sem renaming run_bind → lN, run_pure → lX
open Go.Value renaming int → lJ, oneCell' → lT, bool → lW
open List renaming mem_map → lG, length_append → lI, mem_of_getElem? → lR, append_assoc → lU, map_append → lV, length_cons → l3, length_eq_zero_iff → l4, nil_append → l6
open List.cons renaming injEq → lY
open Nat renaming le_refl → lB, le_trans → lM
open Prod.mk renaming injEq → lZ
open UInt8 renaming ofNat → lE
namespace Go.Proofs.YtfdimggmljkkbaaGreatDoor
section
set_option maxRecDepth 100000
open Go.Proofs.Tryz
open Go.RowKit
def Zl(r:PRef):Value:=.agg (Z1 r).toArray
theorem Z93(w:World)(xs:Array Value)(i:Nat)(b:Bool)(hx:xs[i]?=some (.bool b)):(part 4 xs i).run lA w=.ok (.bool b) w:=by
 simp[part,isAgg,lC underlying4,hx]
theorem Z94(w:World)(xs:Array Value)(i:Nat)(n:Int)(hx:xs[i]?=some (.int .i64 n)):(part 3 xs i).run lA w=.ok (.int .i64 n) w:=by
 simp[part,isAgg,lC underlying3,hx]
theorem Z95(w:World)(b:Bool)(ds:Str)(n:Int)(hd:ds.length=32):(part 47 (lW b :: (ds.map B++[lJ .i64 n])).toArray 1).run lA w=.ok (.agg (ds.map B).toArray) w:=by
 have e:(lW b :: (ds.map B++[lJ .i64 n])).toArray.extract 1 33=(ds.map B).toArray:=by
  apply Array.ext';have h1:List.take 32 (List.map B ds++[lJ IntKind.i64 n])=List.map B ds:=List.take_left' (by simp[hd]);simp[List.extract,h1]
 simp only[part,isAgg,lC underlying47,sizeOf47,lN,lO,lX,if_true,Nat.reduceAdd,e]
theorem Zfi{P:Program}(w:World)(D:Nat)(xs ys:Array Value){s1 s2 s3:TypeId}{o1 o2 o3:Nat}(fs:List Field)(a1 a2 a3 b1 b2 b3:Value){u1 u2 u3:Bool}(hf:(fs.map fun f=>(f.name,f.type,f.offset))=[("Own",s1,o1),("Commit",s2,o2),("N",s3,o3)])
  (pa:(part s1 xs o1).run P w=.ok a1 w) (pb:(part s1 ys o1).run P w=.ok b1 w) (qa:(part s2 xs o2).run P w=.ok a2 w) (qb:(part s2 ys o2).run P w=.ok b2 w) (ra:(part s3 xs o3).run P w=.ok a3 w) (rb:(part s3 ys o3).run P w=.ok b3 w)
  (e1:(lD D s1 a1 b1).run P w=.ok u1 w) (e2:(lD D s2 a2 b2).run P w=.ok u2 w) (e3:(lD D s3 a3 b3).run P w=.ok u3 w) :
  (Op.eqFields D xs ys fs).run P w=.ok (u1 && (u2 && u3)) w:=by
 obtain⟨f1,f2,f3,rfl⟩:∃ f1 f2 f3,fs=[f1,f2,f3]:=by
  rcases fs with _ | ⟨f1,_ | ⟨f2,_ | ⟨f3,_ | ⟨f4,fs⟩⟩⟩⟩;all_goals first | exact⟨_,_,_,rfl⟩ | (exfalso;simp at hf)
 simp only[List.map_cons,List.map_nil,lY,lZ,and_true] at hf;obtain⟨⟨n1,t1,p1⟩,⟨n2,t2,p2⟩,⟨n3,t3,p3⟩⟩:=hf;simp only[Op.eqFields,n1,n2,n3,t1,t2,t3,p1,p2,p3,ne_eq,String.reduceEq,not_false_eq_true,if_true,lN,pa,pb,e1,lO];cases u1 <;> cases u2 <;> cases u3 <;> simp[qa,qb,ra,rb,e2,e3]
theorem Zfj:lA.underlying 158=some (.struct (lA.fieldsOf 158)):=by
 simp[Program.fieldsOf,underlying158]
theorem Z4y(w:World)(a b:PRef)(ha:a.com.length=32)(hb:b.com.length=32) :
  (lD 10000 158 (Zl a) (Zl b)).run lA w=.ok (a.own == b.own && (a.com == b.com && a.n == b.n)) w:=by
 have hf:((lA.fieldsOf 158).toList.map fun f=>(f.name,f.type,f.offset))=[("Own",4,0),("Commit",47,1),("N",3,33)]:=by simp[Program.fieldsOf,underlying158]
 have pa:=Z93 w (Z1 a).toArray 0 a.own rfl;have pb:=Z93 w (Z1 b).toArray 0 b.own rfl;have qa:=Z95 w a.own a.com a.n ha;have qb:=Z95 w b.own b.com b.n hb;have ra:=Z94 w (Z1 a).toArray 33 a.n (by simp[Z1,ha]);have rb:=Z94 w (Z1 b).toArray 33 b.n (by simp[Z1,hb]);have e1:(lD 9999 4 (.bool a.own) (.bool b.own)).run lA w=.ok (a.own == b.own) w:=run_equalIn_bool w 9998 _ _ _ underlying4;have e2:(lD 9999 47 (.agg (a.com.map B).toArray) (.agg (b.com.map B).toArray)).run lA w=.ok (a.com == b.com) w:=Z2i (P:=lA) w 9998 47 5 32 underlying47 underlying5 (by kernel_rfl) a.com b.com ha hb (fun x y=>by rw[lP (P:=lA) w 9997 5 .u8 .u8 (bv x) (bv y) underlying5,Z2h]);have e3:(lD 9999 3 (.int .i64 a.n) (.int .i64 b.n)).run lA w=.ok (a.n == b.n) w:=lP w 9998 _ _ _ _ _ underlying3;unfold Zl;rw[run_equalIn_struct w 9999 158 _ _ Zfj Tryz.stoodInHeld158];exact Zfi w 9999 _ _ _ _ _ _ _ _ _ hf pa pb qa qb ra rb e1 e2 e3
theorem Zfk(w:World)(a b:PRef)(ha:a.com.length=32)(hb:b.com.length=32) :
  (binOp .eql 158 (Zl a) (Zl b)).run lA w=.ok (.bool (a.own == b.own && (a.com == b.com && a.n == b.n))) w:=by
 have h:=Z4y w a b ha hb;unfold Zl at h ⊢;rw[run_eql_struct,h];rfl
end
section
set_option maxRecDepth 100000
set_option maxHeartbeats 1000000
open Go.Lib renaming hid → iD
open Go.Proofs.Tryz
open Go.RowKit
theorem Zfl(w:World){o:Oper}{a:Act}{x y:Operand}{yt:TypeId}(ho:o.op=.binOp .eql 158 x y yt)(r s:PRef)(hxe:a.eval x=Zl r)(hye:a.eval y=Zl s)(hr:r.com.length=32)(hs:s.com.length=32) :
  (execOp a.eval o).run lA w=.ok (.value (.bool (r.own == s.own && (r.com == s.com && r.n == s.n)))) w:=by
 have h1:(eqGuard .eql 158 x y (Zl r) (Zl s)).run lA w=.ok () w:=run_eqGuard_agg (P:=lA) w .eql 158 x y _ _ Tryz.eqGuardType158;simp only[execOp,ho,hxe,hye,lN,h1,lO,Zfk w r s hr hs,lX]
theorem Z2s{ops:Array Oper}{rest:List Oper}{o:Oper}{a:Act}{w:World}{Q:Exit->Act->World->Prop}(hgd:o.guard=none)(x y:Operand)(yt:TypeId)(ho:o.op=.binOp .eql 158 x y yt)
  (r s:PRef) (hxe:a.eval x=Zl r) (hye:a.eval y=Zl s) (hr:r.com.length=32) (hs:s.com.length=32)
  (h:wpList lA ops Q rest (a.put o.dst (.bool (r.own == s.own && (r.com == s.com && r.n == s.n)))) w):wpList lA ops Q (o :: rest) a w :=
 G4 _ ho hgd _ (Zfl w ho r s hxe hye hr hs) h
def Z8:PRef:=⟨false,X2,0⟩
theorem Zfm(r:PRef):(r.own == Z8.own && (r.com == Z8.com && r.n == Z8.n))=r.root:=by
 unfold PRef.root Z8;cases r.own <;> simp
theorem Z4z(r:PRef)(hr:r.com.length=32)(w:World):Calls lA 172 #[Zl r] w fun e w'=>e=.returned (.bool r.root)/\Below w.heap.size w w':=by
 have hsr:(lA.info? 158).map (·.size)=some (Z1 r).length:=by
  have e:(Z1 r).length=34:=by simp[Z1,hr]
  have e2:(lA.info? 158).map (·.size)=some 34:=by kernel_rfl
  rw[e2,e]
 have hz:(Z8.com).length=32:=by decide
 have hrt:=Zfm r;obtain⟨q,hq⟩:∃ q,q=r.root:=⟨_,rfl⟩;rw[<-hq] at hrt ⊢;replace hq:=iD hq;replace hsr:=iD hsr;replace hr:=iD hr;replace hz:=iD hz;replace hrt:=iD hrt;unfold Zl;go_enter func172,ntmps172;go_wp2_with (first
  | (refine Y0 rfl 158 (.tmp 1) rfl w.heap.size rfl 158 (Z1 r) (Blk.new_at rfl) _ underlying158 rfl hsr.out ?_)
  | (refine Z2s rfl (.tmp 3) (.tmp 4) _ rfl r Z8 rfl rfl hr.out hz.out ?_;rw[hrt.out]))
 go_ret;exact⟨rfl,bL⟩
end
section
open Go.Proofs.Tryz
open Go.RowKit
open Go.Maps Go.MapKept Go.ChangeMaps
def Zg(w:World)(b:Nat)(es:List (Value × Value)):Prop:=∃ xs clock,w.heap[b]?=some (.map xs clock)/\xs.toList.map (fun e=>(e.key,e.val))=es
theorem Zg.lt{w:World}{b:Nat}{es:List (Value × Value)}(h:Zg w b es):b<w.heap.size:=by
 obtain⟨xs,c,h1,_⟩:=h;obtain⟨h2,_⟩:=l0.1 h1;exact h2
theorem Zg.block{w w':World}{b:Nat}{es:List (Value × Value)}(h:Zg w b es)(hb:w'.heap[b]?=w.heap[b]?):Zg w' b es:=by
 obtain⟨xs,c,h1,h2⟩:=h;exact⟨xs,c,by rw[hb,h1],h2⟩
theorem Zg.below{w w':World}{b B:Nat}{es:List (Value × Value)}(h:Zg w b es)(hb:Below B w w')(hl:b<B):Zg w' b es:=h.block (hb.block _ hl)
theorem Zg.new(w:World):Zg (w.alloc (.map #[] 0)) w.heap.size []:=⟨#[],0,heap_alloc_new w _,rfl⟩
theorem Zg.alloc{w:World}{b:Nat}{es:List (Value × Value)}(h:Zg w b es)(o:Obj):Zg (w.alloc o) b es:=h.block (heap_alloc_old w o h.lt)
structure KeyOk (P:Program) (K:TypeId) (ok:Value->Prop):Prop where
 check:∀ (w:World) (em:Bool) (v:Value),ok v->(lQ em 10000 K v).run P w=.ok () w
 find:∀ (w:World) (x:Value),ok x->∀ es:List MapEntry,(∀ e ∈ es,ok e.key) ->
  ((Instr.findKey K x es).run P w=.ok none w/\∀ e ∈ es,e.key ≠ x) ∨ ∃ j e,(Instr.findKey K x es).run P w=.ok (some (j,e.val)) w/\es[j]?=some e/\e.key=x
theorem Z50{P:Program}(w:World){K:TypeId}{ok:Value->Prop}(heq:∀ x y,ok x->ok y->∃ r:Bool,(Op.equal K x y).run P w=.ok r w/\(r=true ↔ x=y)){x:Value}(hx:ok x) :
  ∀ (es:List MapEntry) (i:Nat),(∀ e ∈ es,ok e.key) ->
   ((lF K x es i).run P w=.ok none w/\∀ e ∈ es,e.key ≠ x) ∨ ∃ j e,(lF K x es i).run P w=.ok (some (i+j,e.val)) w/\es[j]?=some e/\e.key=x
 | [],i,_=>Or.inl ⟨by simp[lF],by simp⟩
 | e :: es,i,hall=>by
  obtain⟨r,hr,hiff⟩:=heq x e.key hx (hall e (by simp));cases r with
  | true =>
   right;exact⟨0,e,by simp[lF,hr],rfl,(hiff.1 rfl).symm⟩
  | false =>
   have hne:e.key ≠ x:=fun h=>by
    have:=hiff.2 h.symm;cases this
   rcases Z50 w heq hx es (i+1) (fun y hy=>hall y (by simp[hy])) with ⟨h1,h2⟩ | ⟨j,e',h1,h2,h3⟩
   ·left;refine⟨by simp[lF,hr,h1],fun y hy=>?_⟩;rcases List.mem_cons.1 hy with rfl | hy
    ·exact hne
    ·exact h2 y hy
   ·right;exact⟨j+1,e',by simp[lF,hr,h1,Nat.add_assoc,Nat.add_comm 1 j],by simpa using h2,h3⟩
section
variable {P:Program} {w:World} {t k e:TypeId} {b:Nat} {es:List (Value × Value)} {ok:Value->Prop} {key:Value}
theorem Z16{xs:Array MapEntry}(h2:xs.toList.map (fun e=>(e.key,e.val))=es)(hes:∀ p ∈ es,ok p.1):∀ x ∈ xs.toList,ok x.key:=fun x hx=>hes (x.key,x.val) (by rw[<-h2];exact lG.2 ⟨x,hx,rfl⟩)
theorem Zg.look_none(h:Zg w b es)(K:KeyOk P k ok)(ht:P.underlying t=some (.map k e)){z:Value}(hz:(zeroValue e).run P w=.ok z w)(hes:∀ p ∈ es,ok p.1)(hk:ok key)(hn:∀ p ∈ es,p.1 ≠ key)(c:Bool) :
  (lK t (.map (some b)) key c).run P w=.ok (if c then .tuple #[z,.bool false] else z) w:=by
 obtain⟨xs,clock,hb,h2⟩:=h;rcases K.find w key hk xs.toList (Z16 h2 hes) with ⟨h1,_⟩ | ⟨j,x,_,h3,h4⟩
 ·simp[lK,lC ht,lL hb,K.check w _ key hk,h1,hz,lH]
 ·exact absurd h4 (hn (x.key,x.val) (by rw[<-h2];exact lG.2 ⟨x,lR h3,rfl⟩))
theorem Zg.look_some(h:Zg w b es)(K:KeyOk P k ok)(ht:P.underlying t=some (.map k e))(hes:∀ p ∈ es,ok p.1)(hk:ok key){v:Value}(hm:(key,v) ∈ es)(hu:∀ p ∈ es,p.1=key->p.2=v)(c:Bool) :
  (lK t (.map (some b)) key c).run P w=.ok (if c then .tuple #[v,.bool true] else v) w:=by
 obtain⟨xs,clock,hb,h2⟩:=h;rcases K.find w key hk xs.toList (Z16 h2 hes) with ⟨_,h1⟩ | ⟨j,x,h1,h3,h4⟩
 ·rw[<-h2] at hm;obtain⟨x,hx,he⟩:=lG.1 hm;exact absurd (congrArg Prod.fst he) (h1 x hx)
 ·have hv:x.val=v:=hu (x.key,x.val) (by rw[<-h2];exact lG.2 ⟨x,lR h3,rfl⟩) h4;simp[lK,lC ht,lL hb,K.check w _ key hk,h1,hv,lH]
theorem Zg.store(h:Zg w b es)(K:KeyOk P k ok)(ht:P.underlying t=some (.map k e))(hes:∀ p ∈ es,ok p.1)(hk:ok key)(hn:∀ p ∈ es,p.1 ≠ key)(v:Value) :
  ∃ w',(l1 t (.map (some b)) key v).run P w=.ok () w'/\Zg w' b (es++[(key,v)])/\w.mapTurned w' b:=by
 obtain⟨xs,clock,hb,h2⟩:=h;rcases K.find w key hk xs.toList (Z16 h2 hes) with ⟨h1,_⟩ | ⟨j,x,_,h3,h4⟩
 ·refine⟨setBlock w b (.map (xs.push ⟨key,v,clock⟩) (clock+1)),?_,⟨xs.push ⟨key,v,clock⟩,clock+1,?_,?_⟩,⟨xs,clock,_,_,hb,rfl⟩⟩
  ·simp[l1,lC ht,lL hb,K.check w false key hk,h1,MapKept.run_setObj_map _ hb,lH,setBlock]
  ·obtain⟨hl,_⟩:=l0.1 hb;simp[setBlock,hl]
  ·simp[h2]
 ·exact absurd h4 (hn (x.key,x.val) (by rw[<-h2];exact lG.2 ⟨x,lR h3,rfl⟩))
theorem Zg.len(h:Zg w b es)(ht:P.underlying t=some (.map k e))(ty:TypeId):(l2 #[t] ty #[.map (some b)]).run P w=.ok (.int .i64 es.length) w:=by
 obtain⟨xs,clock,hb,h2⟩:=h;have hl:(es.length:Int)=xs.size:=by rw[<-h2];simp
 simp[l2,lC ht,lL hb,lH,goInt,hl]
end
def Ga(v:Value):Prop:=∃ d:Str,d.length=32/\v=.agg (d.map B).toArray
def Uh(v:Value):Prop:=∃ r:PRef,r.com.length=32/\v=Zl r
theorem Zfn(w:World)(em:Bool)(d:Str)(hd:d.length=32):(lQ em 10000 47 (.agg (d.map B).toArray)).run lA w=.ok () w:=by
 iterate 32 (rcases d with _ | ⟨_,d⟩;· (exfalso;simp at hd;done))
 obtain rfl:d=[]:=by
  simp only[l3] at hd;exact l4.1 (by omega)
 kernel_rfl
theorem Zfo(w:World)(em:Bool)(r:PRef)(hr:r.com.length=32):(lQ em 10000 158 (Zl r)).run lA w=.ok () w:=by
 obtain⟨o,d,n⟩:=r;dsimp only at hr
 iterate 32 (rcases d with _ | ⟨_,d⟩;· (exfalso;simp at hr;done))
 obtain rfl:d=[]:=by
  simp only[l3] at hr;exact l4.1 (by omega)
 kernel_rfl
theorem Z96{xs ys:Str}(h:xs.map B=ys.map B):xs=ys:=List.map_inj_right (fun a b hab=>Z7t (by injection hab)) |>.1 h
theorem Z2t{xs ys:Str}:((Value.agg (xs.map B).toArray)=.agg (ys.map B).toArray) ↔ xs=ys:=by
 constructor
 ·intro h
  injection h with h
  exact Z96 (by simpa using congrArg Array.toList h)
 ·rintro rfl;rfl
theorem Z97{r s:PRef}(h:Z1 r=Z1 s)(hr:r.com.length=32)(hs:s.com.length=32):r=s:=by
 obtain⟨o,d,n⟩:=r;obtain⟨o',d',n'⟩:=s;simp only[Z1,lY] at h;obtain⟨h1,h2⟩:=h;have h3:=List.append_inj h2 (by simp_all);have h4:=Z96 h3.1;have h5:=h3.2
 simp_all
theorem Z2u{r s:PRef}(hr:r.com.length=32)(hs:s.com.length=32):(Zl r=Zl s) ↔ r=s:=by
 constructor
 ·intro h;unfold Zl at h
  injection h with h
  exact Z97 (by simpa using congrArg Array.toList h) hr hs
 ·rintro rfl;rfl
theorem Xz:KeyOk lA 47 Ga where
 check:=fun w em v ⟨d,hd,hv⟩=>by rw[hv];exact Zfn w em d hd
 find:=fun w x hx es hes=>by
  rw[run_findKey_eq w (by kernel_rfl)];simpa using Z50 w (ok:=Ga) (fun x y ⟨d,hd,hx⟩ ⟨d',hd',hy⟩=>by
   have h:=Z2i (P:=lA) w 9999 47 5 32 underlying47 underlying5 (by kernel_rfl) d d' hd hd' (fun a b=>by rw[lP (P:=lA) w 9998 5 .u8 .u8 (bv a) (bv b) underlying5,Z2h]);rw[hx,hy];exact⟨_,h,by rw[Z2t,beq_iff_eq]⟩) hx es 0 hes
theorem Z04:KeyOk lA 158 Uh where
 check:=fun w em v ⟨d,hd,hv⟩=>by rw[hv];exact Zfo w em d hd
 find:=fun w x hx es hes=>by
  rw[run_findKey_eq w (by kernel_rfl)];simpa using Z50 w (ok:=Uh) (fun x y ⟨d,hd,hx⟩ ⟨d',hd',hy⟩=>by
   have h:=Z4y w d d' hd hd';rw[hx,hy];refine⟨_,h,?_⟩;rw[Z2u hd hd'];cases d;cases d'
   simp) hx es 0 hes
end
section
set_option maxRecDepth 100000
set_option maxHeartbeats 1000000
open Go.Proofs.Tryz
open Go.RowKit
def Zf(r:PRef)(b:UInt8)(gone:Bool)(l rt:Value):List Value:=Z1 r++[B b,.bool gone,l,rt]
abbrev Z2:Value:=.slice none 0 0
structure TreeAt (w:World) (tb nb mb ab:Nat) (seen:Int) (es us:List (Value × Value)) (right:Value):Prop where
 tree:Blk w tb 245 [.pointer (some ⟨nb,0,none⟩),.map (some mb),.map (some ab),.int .i64 seen]
 root:Blk w nb 235 (Zf Z8 0 true Z2 right)
 by_:Zg w mb es
 added:Zg w ab us
theorem TreeAt.below{w w':World}{tb nb mb ab:Nat}{seen:Int}{es us:List (Value × Value)}{right:Value}(h:TreeAt w tb nb mb ab seen es us right)(hb:Below w.heap.size w w'):TreeAt w' tb nb mb ab seen es us right :=
 ⟨h.tree.below hb h.tree.lt,h.root.below hb h.root.lt,h.by_.below hb h.by_.lt,h.added.below hb h.added.lt⟩
theorem Zg.new_at{w:World}{b:Nat}(h:b=w.heap.size):Zg (w.alloc (.map #[] 0)) b []:=by
 subst h;exact Zg.new w
theorem Z98(w:World):Calls lA 85 #[] w fun e w'=>∃ tb nb mb ab,e=.returned (.pointer (some ⟨tb,0,none⟩))/\TreeAt w' tb nb mb ab 0 [] [] Z2/\w.heap.size<=nb/\nb<mb/\mb<ab/\ab<tb/\Below w.heap.size w w':=by
 have hmm:=@run_makeMap lA;go_enter func85,ntmps85;go_wp2;go_ret;refine⟨w.heap.size+1+1+1,w.heap.size,w.heap.size+1,w.heap.size+1+1,rfl,⟨Blk.new_at (cs:=[.pointer (some ⟨w.heap.size,0,none⟩),.map (some (w.heap.size+1)),.map (some (w.heap.size+1+1)),.int .i64 0]) (by simp),?_,?_,?_⟩,lB _,by omega,by omega,by omega,?_⟩
 ·exact (((Blk.new_at (cs:=Zf Z8 0 true Z2 Z2) rfl).alloc _).alloc _).alloc _
 ·exact ((Zg.new_at (by simp)).alloc _).alloc _
 ·exact (Zg.new_at (by simp)).alloc _
 ·exact ((bL.alloc (by simp) _).alloc (by simp;omega) _).alloc (by simp;omega) _
theorem Z17{P:Program}{fn:Func}{R:Ending->World->Prop}{a:Act}{w:World}{p u v:Tmp}{ty:TypeId}(hres:fn.results=#[.cell p ty,.tmp u,.tmp v])(g:Nat)(t:TypeId)(cs:List Value)(d:TypeDesc)
  (hp:a.tmps.getD p undef=.pointer (some ⟨g,0,none⟩)) (hg:Blk w g t cs) (hu:P.underlying ty=some d) (hd:(match d with | .struct _ | .array _ _=>true | _=>false)=true)
  (hi:(P.info? ty).map (·.size)=some cs.length) (hdef:a.defers=[]) (x y:Value) (hx:a.tmps.getD u undef=x) (hy:a.tmps.getD v undef=y) (hR:R (.returned (.tuple #[.agg cs.toArray,x,y])) w):bodyPost P fn R .ret a w:=by
 refine bodyPost_ret (v:=.tuple #[.agg cs.toArray,x,y]) ?_ hdef hR;have hp':a.tmps[p]?.getD undef=.pointer (some ⟨g,0,none⟩):=by simpa using hp
 have hx':a.tmps[u]?.getD undef=x:=by simpa using hx
 have hy':a.tmps[v]?.getD undef=y:=by simpa using hy
 simp[results,hres,hp',hx',hy',asAddr,run_loadVar_row w g t ty cs.toArray (0,0) d hg hu hd (by simpa using hi),lH]
end
section
set_option maxRecDepth 100000
set_option maxHeartbeats 4000000
open Go.Lib renaming hid → iD
open Go.Proofs.Tryz
open Go.RowKit
def Z18(w:World)(base:Nat)(xs:Str)(e:Ending)(w':World):Prop:=∃ V,e=.returned V/\w'.ownsRow base 5 1 V xs.length (xs.map B)/\Below base w w'
theorem Kc:InfoOf lA 5 (B 0) 1 1:=⟨by kernel_rfl,rfl,by omega⟩
theorem Zfp:∀ k:Fin 256,bits BinOp.or IntKind.u8 ((k.1:Nat):Int) 128=bv (lE (k.1 % 128+128)):=by decide +kernel
theorem or128(m:Nat):bits BinOp.or IntKind.u8 ((m:Int) % 256) 128=bv (lE (m % 128+128)):=by
 have:=Zfp ⟨m % 256,by omega⟩;have e:((m:Int) % 256)=((m % 256:Nat):Int):=by omega
 rw[e,this];have e2:m % 256 % 128=m % 128:=by omega
 simp only[e2]
theorem Zfq:∀ k:Fin 256,((k.1:Nat):Int)=bv (lE k.1):=by decide +kernel
theorem low8(m:Nat)(h:m<128):((m:Int) % 256)=bv (lE m):=by
 have:=Zfq ⟨m,by omega⟩;simp only at this;rw[<-this];omega
theorem Z99(n:Nat)(v:Value)(xs:Str)(base:Nat)(w:World)(hn:n<=9223372036854775807)(ho:w.ownsRow base 5 1 v xs.length (xs.map B))(hbase:base<=w.heap.size)(hx:xs.length<=1099511627776) :
  Calls lA 171 #[v,.int .i64 n] w (Z18 w base (xs++Zp n)):=by
 have hpl:=Z01 9 n (by (have : (128:Nat) ^ 9=9223372036854775808:=by decide);omega);obtain⟨VA,vc,rfl,_,_⟩:=Z6 ho;replace ho:=iD ho;go_enter func171,ntmps171;go_wp2;go_loopw [0,1] (fun b i wr=>∃ (m:Nat) (ys:Str),m<=n/\i=.int .i64 m/\Hid (Zp n=ys++Zp m)/\wr.ownsRow base 5 1 b (xs++ys).length ((xs++ys).map B)/\Below base w wr) (fun _ i _=>(intOf i).toNat)
 case atStart=>exact⟨n,[],lB _,rfl,iD rfl,by simpa using ho.out,lS _ _⟩
 case round =>
  obtain⟨m,ys,hm,rfl,he,hrow,hb⟩:=hrel;obtain⟨FA,fc,rfl,_,_⟩:=Z6 hrow;have hyl:ys.length<=10:=by
   have:=congrArg List.length he.out;rw[lI] at this;omega
  have hsz:=hb.size;obtain⟨zs,hzs⟩:∃ zs,zs=xs++ys:=⟨_,rfl⟩;have hzl:zs.length<=1099511627786:=by rw[hzs,lI];omega
  rw[<-hzs] at hrow ⊢;replace hrow:=iD hrow;replace hzs:=iD hzs;by_cases h128:128<=m
  ·have d1:decide (128<=(m:Int))=true:=decide_eq_true (by omega);have e1:=or128 m;have hpb:=iD (Z8w h128);obtain⟨c,hc⟩:∃ c,c=lE (m % 128+128):=⟨_,rfl⟩;rw[<-hc] at e1 hpb;clear hc;go_wp2_with (at_builtin;refine X0 _ rfl (.tmp 9) (.tmp 13) 99 rfl base 5 (B 0) 1 1 underlying99 Kc (.slice FA zs.length fc) zs.length (zs.map B) rfl (hrow.out.alloc _) (fun _=>True) (some ⟨wr.heap.size,0,none⟩) 1 1 [B c] rfl rfl (Rd.of_blk (cs:=[B c]) (r:=[]) (Blk.new_at rfl) rfl trivial) (by simp[lT]) (by unfold maxLen;omega) (by omega) (by simp;omega) ?_;intro v4 W4 hrow4 hg4 hv4;replace hrow4:=iD hrow4;replace hg4:=iD hg4;clear hv4;obtain⟨GA,gc,rfl,_,_⟩:=Z6 hrow4.out;go_frame);go_roundw
   case rel =>
    have hba:=hb.trans (((lS _ _).alloc (lB _) (Obj.cells #[B c] 5)).mono (lM hbase hsz));have h5:=hrow4.out;refine⟨m / 128,ys++[c],by omega,?_,iD (by rw[he.out,hpb.out,lU];rfl),?_,hba.trans (Yd (hrow.out.alloc _) hg4.out (by simp;omega))⟩
    ·go_num
    ·rw[<-lU,<-hzs.out,lI,lV];exact h5
   case measure=>simp[intOf];omega
  ·have d1:decide (128<=(m:Int))=false:=decide_eq_false (by omega);have e1:Hid ((m:Int)=bv (lE m)):=iD (by have:=low8 m (by omega);omega);have hpb:=iD (Vy (by omega:m<128));obtain⟨c,hc⟩:∃ c,c=lE m:=⟨_,rfl⟩;rw[<-hc] at e1 hpb;clear hc;go_wp2_with (at_builtin;refine X0 _ rfl (.tmp 15) (.tmp 18) 99 rfl base 5 (B 0) 1 1 underlying99 Kc (.slice FA zs.length fc) zs.length (zs.map B) rfl (hrow.out.alloc _) (fun _=>True) (some ⟨wr.heap.size,0,none⟩) 1 1 [.int .u8 (m:Int)] rfl rfl (Rd.of_blk (cs:=[.int .u8 (m:Int)]) (r:=[]) (Blk.new_at rfl) rfl trivial) (by simp[lT]) (by unfold maxLen;omega) (by omega) (by simp;omega) ?_;intro v4 W4 hrow4 hg4 hv4;replace hrow4:=iD hrow4;replace hg4:=iD hg4;clear hv4;obtain⟨GA,gc,rfl,_,_⟩:=Z6 hrow4.out;go_frame);go_ret;have hba:=hb.trans (((lS _ _).alloc (lB _) (Obj.cells #[lJ .u8 (m:Int)] 5)).mono (lM hbase hsz));refine⟨_,rfl,?_,hba.trans (Yd (hrow.out.alloc _) hg4.out (by simp;omega))⟩;have e2:xs++Zp n=zs++[c]:=by rw[he.out,hpb.out,hzs.out,lU]
   have e3:=e1.out;have h5:=hrow4.out;rw[e3] at h5;rw[e2,lI,lV];exact h5
theorem Zfr(n:Nat)(v:Value)(xs:Str)(base:Nat)(w:World)(hn:n<=4611686018427387904)(ho:w.ownsRow base 5 1 v xs.length (xs.map B))(hbase:base<=w.heap.size)(hx:xs.length<=1099511627776) :
  Calls lA 171 #[v,.int .i64 n] w (Z18 w base (xs++Zp n)):=Z99 n v xs base w (by omega) ho hbase hx
theorem Ui(s:Str):(⟨s.toArray⟩:ByteArray).size=s.length:=by simp[ByteArray.size]
theorem Zfs:∃ i,lA.info? 5=some i/\i.zero=some (.int .u8 0)/\i.size=1/\i.bytes=1:=by
 have h:=Kc.info;cases hq:lA.info? 5 with
 | none=>simp[hq] at h
 | some i =>
  simp only[hq,Option.map_some,Option.some.injEq,lZ] at h;exact⟨i,rfl,h.1,h.2.1,h.2.2⟩
theorem Zft(t:Str):l5 ⟨t.toArray⟩=t.map B:=by
 simp[l5,B,bv]
theorem Z9a(w:World):w.ownsRow w.heap.size 5 1 (.slice none 0 0) ([]:Str).length (([]:Str).map B):=⟨rfl,.inl ⟨rfl,rfl⟩⟩
theorem Zfu(n:Nat)(w:World)(hn:n<=9223372036854775807) :
  Calls lA 170 #[.int .i64 n] w fun e w'=>∃ V,e=.returned (.tuple #[V,.int .i64 0])/\w'.ownsRow w.heap.size 5 1 V (Zp n).length ((Zp n).map B)/\Below w.heap.size w w':=by
 have hp:=iD (Z99 n (.slice none 0 0) [] w.heap.size w hn (Z9a w) (lB _) (by simp));unfold Z18 at hp;rw[l6] at hp;have d1:decide ((n:Int)<0)=false:=decide_eq_false (by omega);go_enter func170,ntmps170;go_wp2_with fail;refine hp.out.mono ?_;rintro e w1 ⟨V,rfl,ho,hb⟩;obtain⟨GA,gc,rfl,_,_⟩:=Z6 ho;replace ho:=iD ho;go_wp2;go_ret2;exact⟨_,rfl,ho.out,hb⟩
theorem Zfv(n:Nat)(w:World)(hn:n<=4611686018427387904) :
  Calls lA 170 #[.int .i64 n] w fun e w'=>∃ V,e=.returned (.tuple #[V,.int .i64 0])/\w'.ownsRow w.heap.size 5 1 V (Zp n).length ((Zp n).map B)/\Below w.heap.size w w':=Zfu n w (by omega)
theorem Z9b(s:Str)(w:World)(hs:s.length<=140737488355000) :
  Calls lA 101 #[Z0 s] w (Z18 w w.heap.size (Kx s)):=by
 have hp:=iD (Zfr s.length (.slice none 0 0) [] w.heap.size w (by omega) (Z9a w) (lB _) (by simp));unfold Z18 at hp;rw[l6] at hp;have hpl:=Z01 9 s.length (by (have : (128:Nat) ^ 9=9223372036854775808:=by decide);omega);obtain⟨ps,hps⟩:∃ ps,ps=Zp s.length:=⟨_,rfl⟩;rw[<-hps] at hp hpl;replace hps:=iD hps;have hsl:=Ui s;obtain⟨i0,hi,hz0,hz1,hz2⟩:=Zfs;replace hi:=iD hi;replace hz0:=iD hz0;replace hz1:=iD hz1;replace hz2:=iD hz2;unfold Z0;go_enter func101,ntmps101;go_wp2_with fail;refine hp.out.mono ?_;rintro e w1 ⟨V,rfl,ho,hb⟩;obtain⟨GA,gc,rfl,_,_⟩:=Z6 ho;have hsz:=hb.size;replace ho:=iD ho;go_wp2_with (at_builtin;refine Lib.wpList_append_own_string _ rfl (.tmp 5) (.tmp 6) 99 9 rfl w.heap.size 5 i0 underlying99 underlying9 hi.out hz0.out hz1.out hz2.out (.slice GA ps.length gc) ps.length (ps.map B) rfl ho.out ⟨s.toArray⟩ rfl (by rw[hsl];unfold maxLen;omega) (by rw[hsl];omega) hsz ?_;intro v4 W4 hrow4 hg4 hv4;replace hrow4:=iD hrow4;replace hg4:=iD hg4;clear hv4;obtain⟨FA,fc,rfl,_,_⟩:=Z6 hrow4.out;go_frame);go_ret;have h5:=hrow4.out;rw[Zft,hsl] at h5;refine⟨_,rfl,?_,hb.trans (Yd ho.out hg4.out hsz)⟩;rw[show Kx s=ps++s by rw[hps.out];rfl,lI,lV];rw[hsl];exact h5
end
section
set_option maxRecDepth 100000
set_option maxHeartbeats 1000000
open Go.Lib renaming hid → iD
open Go.Proofs.Tryz
open Go.RowKit
def Oc(gone:Bool)(nb:Nat):List Value:=if gone then [] else [.pointer (some ⟨nb,0,none⟩)]
def Y5(ns:List Nat):List Value:=ns.map fun n=>.pointer (some ⟨n,0,none⟩)
def Vz(lb:Nat):Value:=.func (.func 208) #[] #[.pointer (some ⟨lb,0,none⟩)]
def U0(cb fb:Nat):Value:=.func (.func 258) #[] #[.pointer (some ⟨cb,0,none⟩),.pointer (some ⟨fb,0,none⟩)]
structure WalkSt (W0 W:World) (lb fb cb:Nat) (xs:List Value):Prop where
 below:Below lb W0 W
 size:cb<W.heap.size
 lf:lb<fb
 fc:fb<cb
 fbB:Blk W fb 313 [Vz lb]
 cbB:Blk W cb 313 [U0 cb fb]
 row:∃ V,Blk W lb 231 [V]/\W.ownsRow (cb+1) 233 1 V xs.length xs
theorem Z19:InfoOf lA 233 (.pointer none) 1 8:=⟨by kernel_rfl,rfl,by omega⟩
theorem WalkSt.set{W0 W W1 W4:World}{lb fb cb:Nat}{xs ys:List Value}{V V':Value}(h:WalkSt W0 W lb fb cb xs)(hV:Blk W lb 231 [V])(ho:W.ownsRow (cb+1) 233 1 V xs.length xs)
  (h1:Below W.heap.size W W1) (hg:W1.grownBy W4 V.ownBlock) (hrow:W4.ownsRow (cb+1) 233 1 V' ys.length ys):WalkSt W0 (W4.setCell ⟨lb,0,none⟩ V') lb fb cb ys:=by
 have ho1:W1.ownsRow (cb+1) 233 1 V xs.length xs:=Zk ho (Touch.ofBelow (L:=[]) h1) (fun b _ hm=>by cases hm);have hlt:∀ k,V.ownBlock=some k->cb+1<=k:=fun k hk=>(ho1.lt k hk).1;have hlt':∀ k,V'.ownBlock=some k->cb+1<=k:=fun k hk=>(hrow.lt k hk).1;have hsz:=h.size;have hlf:=h.lf;have hfc:=h.fc;have hne:∀ k,k<=cb->some k ≠ V.ownBlock:=fun k hk e=>by
  have:=hlt k e.symm;omega
 have hs1:cb+1<=W1.heap.size:=lM hsz h1.size;refine⟨?_,?_,hlf,hfc,?_,?_,V',?_,?_⟩
 ·exact ((h.below.trans (h1.mono (by omega))).trans ((Yd ho1 hg hs1).mono (by omega))).setCell (lB _) _
 ·have:=hg.size;simp;omega
 ·exact (((h.fbB.below h1 (by omega)).grown hg (hne fb (by omega))).far (by simp;omega) _)
 ·exact (((h.cbB.below h1 (by omega)).grown hg (hne cb (by omega))).far (by simp;omega) _)
 ·exact ((hV.below h1 (by omega)).grown hg (hne lb (by omega))).set_ 0 _
 ·refine Zk hrow (Touch.setCell (L:=[lb]) _ (by simp)) ?_;intro b hb hm;have:=hlt' b hb;simp at hm;omega
theorem WalkSt.drewN{W0 W:World}{lb fb cb:Nat}{xs:List Value}(h:WalkSt W0 W lb fb cb xs)(n:Nat):WalkSt W0 (W.drewN n) lb fb cb xs:=by
 have hT:=Touch.drewN (w:=W) (L:=[]) n;obtain⟨V,hV,ho⟩:=h.row;have hs:=h.size;have h1:=h.lf;have h2:=h.fc;exact⟨h.below.trans (hT.below (by omega) (fun _ hi=>by cases hi)),Nat.lt_of_lt_of_le hs hT.size,h1,h2,h.fbB.drewN n,h.cbB.drewN n,V,hV.drewN n,Zk ho hT (fun _ _ hm=>by cases hm)⟩
theorem Zfw{w:World}{base base':Nat}{e:TypeId}{n:Nat}{v:Value}{xs:List Value}(hb:base'<=base)(h:w.ownsRow base e 1 v n xs):w.ownsRow base' e 1 v n xs:=by
 rcases h with ⟨h1,⟨h2,h3⟩ | ⟨g,cap,cur,h2,h3,h4⟩⟩
 ·exact⟨h1,.inl ⟨h2,h3⟩⟩
 ·exact⟨h1,.inr ⟨g,cap,cur,h2,lM hb h3,h4⟩⟩
theorem Zfx(W0 W:World)(lb fb cb nb:Nat)(xs:List Value)(r:PRef)(b:UInt8)(gone:Bool)(l rt:Value)(h:WalkSt W0 W lb fb cb xs)(hn:Blk W nb 235 (Zf r b gone l rt))(hr:r.com.length=32)(hx:xs.length<=1099511627776) :
  Calls lA 208 #[.pointer (some ⟨nb,0,none⟩),.pointer (some ⟨lb,0,none⟩)] W fun e W'=>e=.returned (.bool true)/\WalkSt W0 W' lb fb cb (xs++Oc gone nb):=by
 have c0:W.cell? ⟨nb,35,none⟩=some (.bool gone):=by rw[hn.cell];simp[Zf,Z1,hr]
 obtain⟨V,hV,ho⟩:=h.row;have cV:W.cell? ⟨lb,0,none⟩=some V:=by rw[hV.cell];rfl
 have hst:=iD h;cases gone with
 | true =>
  clear h hn hr ho hV;go_enter func208,ntmps208;go_wp2;go_ret;exact⟨rfl,by simpa[Oc] using hst.out⟩
 | false =>
  obtain⟨FA,fc,rfl,_,_⟩:=Z6 ho;have hsz:=h.size;have hne:=iD (fun e:some lb=(Value.slice FA xs.length fc).ownBlock=>(by
   have h1:=(ho.lt lb e.symm).1;have h2:=h.lf;have h3:=h.fc;omega:False))
  replace ho:=iD ho;replace hV:=iD hV;clear h hn hr;go_enter func208,ntmps208;go_wp2_with (at_builtin;refine X0 _ rfl (.tmp 9) (.tmp 11) 231 rfl (cb+1) 233 (.pointer none) 1 8 underlying231 Z19 (.slice FA xs.length fc) xs.length xs rfl (ho.out.alloc _) (fun _=>True) (some ⟨W.heap.size,0,none⟩) 1 1 [.pointer (some ⟨nb,0,none⟩)] rfl rfl (Rd.of_blk (cs:=[.pointer (some ⟨nb,0,none⟩)]) (r:=[]) (Blk.new_at rfl) rfl trivial) (by simp[lT]) (by unfold maxLen;omega) (by omega) (by simp;omega) ?_;intro v4 W4 hrow4 hg4 hv4;replace hrow4:=iD hrow4;replace hg4:=iD hg4;clear hv4;obtain⟨GA,gc,rfl,_,_⟩:=Z6 hrow4.out;have hB4:Blk W4 lb 231 [.slice FA xs.length fc]:=(hV.out.alloc _).grown hg4.out hne.out;have cL:W4.cell? ⟨lb,0,none⟩=some (.slice FA xs.length fc):=hB4.cell 0;have fL:=hB4.frozen 0;clear hB4;go_frame);go_ret;refine⟨rfl,hst.out.set hV.out ho.out bL hg4.out ?_⟩;have h5:=hrow4.out;simpa[Oc] using h5
theorem Z9c{t:Str}{m:Nat}(h:m<t.length):t.take (m+1)=t.take m++[t[m]]:=by
 rw[List.take_add_one,List.getElem?_eq_getElem h];rfl
end
section
open Go.RowKit
theorem Z51{w:World}{g:Nat}{t:TypeId}{cs:List Value}(h:Blk w g t cs):w.setRow g cs.toArray=w:=by
 have e:(w.heap.modify g fun | .cells _ elem frozen=>.cells cs.toArray elem frozen | o=>o)=w.heap:=by
  apply Array.ext_getElem?;intro k;rw[Array.getElem?_modify];by_cases hk:g=k
  ·subst hk;have h1:w.heap[g]?=some (.cells cs.toArray t (0,0)):=h;rw[if_pos rfl,h1];rfl
  ·rw[if_neg hk]
 show ({ w with heap:=w.heap.modify g fun | .cells _ elem frozen=>.cells cs.toArray elem frozen | o=>o }:World)=w;rw[e]
theorem Zfy{t k e:TypeId}(ht:lA.underlying t=some (.map k e)){w:World}{b:Nat}(h:Zg w b []):∃ c,(Instr.range t (.map (some b))).run lA w=.ok (.pointer (some ⟨w.heap.size,0,none⟩)) (w.alloc (.mapIter (some b) c #[] c)) /\
  ∀ ty,(Instr.next (.pointer (some ⟨w.heap.size,0,none⟩)) false ty).run lA (w.alloc (.mapIter (some b) c #[] c))=.ok (.tuple #[.bool false]) (w.alloc (.mapIter (some b) c #[] c)):=by
 obtain⟨xs,c,hb,hx⟩:=h;have hxs:xs=#[]:=by simpa using hx
 subst hxs;refine⟨c,run_range_map w t k e b #[] c ht hb,fun ty=>?_⟩;rcases run_next_map (P:=lA) w ty b c c #[] #[] c hb (by simp) (lB _) with ⟨_,h⟩ | ⟨x,hx,_⟩
 ·exact h
 ·simp[leftOf] at hx
theorem Zfz:(lA.info? 235).map (·.size)=some 38:=by kernel_rfl
end
end Go.Proofs.YtfdimggmljkkbaaGreatDoor
