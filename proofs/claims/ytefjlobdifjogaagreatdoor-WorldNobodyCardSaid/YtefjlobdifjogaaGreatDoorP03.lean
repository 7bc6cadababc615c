import Derived.Test.YtefjlobdifjogaaGreatDoorP02
import Derived.Handy
import Derived.Laws.EntriesVeiled
import Derived.Shelf.Strings.Builder1
import Derived.Shelf.Small.Bits
import Derived.Shelf.Small.Strs
import Derived.Shelf.Strconv.Itoa0
import Derived.Shelf.Strings.Search1
import Derived.Shelf.Strings.Search2
import Derived.Shelf.Strings.Search3
import Derived.Shelf.Strings.Count
import Derived.Shelf.LaysM
import Derived.Shelf.Strings.Shaped
import Derived.Shelf.Strings.Prefix
import Derived.Shelf.Unicode.DecodeSlow
import Derived.Ground.SlgmProg
import Derived.Shelf.SortM.Plain
import Derived.Shelf.SortM.SortNone
import Derived.RangeFuncOwn
import Derived.Lib.Builder
import Derived.Lib.AppendStr
import Derived.Laws.Externs
import Derived.Deep.OwnRows
open Array renaming getElem?_eq_some_iff → lX
open ByteArray renaming size → l1
open Go renaming rounds_succ → lE, wp_loop_rounds → lJ, run_underlying → lL, below_drewN → lW, bodyPost_ret → l0, results_none → l8
open Go.Ending renaming returned → nE
open Go.Instr renaming findAsking → lK, lookup → lS, checkKey → lY, mapUpdate → l9, makeMap → nB, index → nD, makeSlice → nI
open Go.Lib renaming byteCells → lB, indexByte → lQ, cell_of_heap → lV, BuilderAt → l2, strCells → l4
open Go.MapKept renaming run_getObj_map → lT
open Go.Obj renaming cells → lI
open Go.Proofs.Tryz renaming prog → lA
open Go.Result renaming andThen → lF
open Go.RowKit.Below renaming refl → lD
open Go.Shelf renaming Ren → lP
open Go.Value renaming slice → lN, ownBlock → l3, string → l5, oneCell' → nG, bool → nJ
open List renaming length_append → lC, length_cons → lG, getElem_mem → lH, mem_map → lO, take_length → lU, mem_of_getElem? → lZ, mem_of_mem_take → l6, append_assoc → l7, length_eq_zero_iff → nA, take_succ_eq_append_getElem → nC, length_take → nH
open Nat renaming le_refl → lM, zero_le → lR
open UInt8 renaming ofNat → nF
section
open Go.Proofs.Tryz
namespace Go.Proofs.YtefjlobdifjogaaGreatDoor
open Go.RowKit
open Go.Maps Go.MapKept Go.ChangeMaps
def Z8(w:World)(b:Nat)(es:List (Value × Value)):Prop:=∃ xs clock,w.heap[b]?=some (.map xs clock)/\xs.toList.map (fun e=>(e.key,e.val))=es
theorem Z8.lt{w:World}{b:Nat}{es:List (Value × Value)}(h:Z8 w b es):b<w.heap.size:=by
 obtain⟨xs,c,h1,_⟩:=h;obtain⟨h2,_⟩:=lX.1 h1;exact h2
theorem Z8.block{w w':World}{b:Nat}{es:List (Value × Value)}(h:Z8 w b es)(hb:w'.heap[b]?=w.heap[b]?):Z8 w' b es:=by
 obtain⟨xs,c,h1,h2⟩:=h;exact⟨xs,c,by rw[hb,h1],h2⟩
theorem Z8.below{w w':World}{b B:Nat}{es:List (Value × Value)}(h:Z8 w b es)(hb:Below B w w')(hl:b<B):Z8 w' b es:=h.block (hb.block _ hl)
theorem Z8.new(w:World):Z8 (w.alloc (.map #[] 0)) w.heap.size []:=⟨#[],0,heap_alloc_new w _,rfl⟩
theorem Z8.alloc{w:World}{b:Nat}{es:List (Value × Value)}(h:Z8 w b es)(o:Obj):Z8 (w.alloc o) b es:=h.block (heap_alloc_old w o h.lt)
structure KeyOk (P:Program) (K:TypeId) (ok:Value->Prop):Prop where
 check:∀ (w:World) (em:Bool) (v:Value),ok v->(lY em 10000 K v).run P w=.ok () w
 find:∀ (w:World) (x:Value),ok x->∀ es:List MapEntry,(∀ e ∈ es,ok e.key) ->
  ((Instr.findKey K x es).run P w=.ok none w/\∀ e ∈ es,e.key ≠ x) ∨ ∃ j e,(Instr.findKey K x es).run P w=.ok (some (j,e.val)) w/\es[j]?=some e/\e.key=x
theorem KeyOk.of_keyed{P:Program}{K:TypeId}(h:Keyed P K):KeyOk P K (fun v=>∃ l,keyOf P K v=some l) where
 check:=fun w em _ ⟨_,hl⟩=>h.check w em hl
 find:=fun w _ ⟨_,hl⟩ es hes=>h.find w hl es hes
theorem Z3q{P:Program}(w:World){K:TypeId}{ok:Value->Prop}(heq:∀ x y,ok x->ok y->∃ r:Bool,(Op.equal K x y).run P w=.ok r w/\(r=true ↔ x=y)){x:Value}(hx:ok x) :
  ∀ (es:List MapEntry) (i:Nat),(∀ e ∈ es,ok e.key) ->
   ((lK K x es i).run P w=.ok none w/\∀ e ∈ es,e.key ≠ x) ∨ ∃ j e,(lK K x es i).run P w=.ok (some (i+j,e.val)) w/\es[j]?=some e/\e.key=x
 | [],i,_=>Or.inl ⟨by simp[lK],by simp⟩
 | e :: es,i,hall=>by
  obtain⟨r,hr,hiff⟩:=heq x e.key hx (hall e (by simp));cases r with
  | true =>
   right;exact⟨0,e,by simp[lK,hr],rfl,(hiff.1 rfl).symm⟩
  | false =>
   have hne:e.key ≠ x:=fun h=>by
    have:=hiff.2 h.symm;cases this
   rcases Z3q w heq hx es (i+1) (fun y hy=>hall y (by simp[hy])) with ⟨h1,h2⟩ | ⟨j,e',h1,h2,h3⟩
   ·left;refine⟨by simp[lK,hr,h1],fun y hy=>?_⟩;rcases List.mem_cons.1 hy with rfl | hy
    ·exact hne
    ·exact h2 y hy
   ·right;exact⟨j+1,e',by simp[lK,hr,h1,Nat.add_assoc,Nat.add_comm 1 j],by simpa using h2,h3⟩
section
variable {P:Program} {w:World} {t k e:TypeId} {b:Nat} {es:List (Value × Value)} {ok:Value->Prop} {key:Value}
theorem Z1o{xs:Array MapEntry}(h2:xs.toList.map (fun e=>(e.key,e.val))=es)(hes:∀ p ∈ es,ok p.1):∀ x ∈ xs.toList,ok x.key:=fun x hx=>hes (x.key,x.val) (by rw[<-h2];exact lO.2 ⟨x,hx,rfl⟩)
theorem Z8.look_none(h:Z8 w b es)(K:KeyOk P k ok)(ht:P.underlying t=some (.map k e)){z:Value}(hz:(zeroValue e).run P w=.ok z w)(hes:∀ p ∈ es,ok p.1)(hk:ok key)(hn:∀ p ∈ es,p.1 ≠ key)(c:Bool) :
  (lS t (.map (some b)) key c).run P w=.ok (if c then .tuple #[z,.bool false] else z) w:=by
 obtain⟨xs,clock,hb,h2⟩:=h;rcases K.find w key hk xs.toList (Z1o h2 hes) with ⟨h1,_⟩ | ⟨j,x,_,h3,h4⟩
 ·simp[lS,lL ht,lT hb,K.check w _ key hk,h1,hz,lF]
 ·exact absurd h4 (hn (x.key,x.val) (by rw[<-h2];exact lO.2 ⟨x,lZ h3,rfl⟩))
theorem Z8.look_some(h:Z8 w b es)(K:KeyOk P k ok)(ht:P.underlying t=some (.map k e))(hes:∀ p ∈ es,ok p.1)(hk:ok key){v:Value}(hm:(key,v) ∈ es)(hu:∀ p ∈ es,p.1=key->p.2=v)(c:Bool) :
  (lS t (.map (some b)) key c).run P w=.ok (if c then .tuple #[v,.bool true] else v) w:=by
 obtain⟨xs,clock,hb,h2⟩:=h;rcases K.find w key hk xs.toList (Z1o h2 hes) with ⟨_,h1⟩ | ⟨j,x,h1,h3,h4⟩
 ·rw[<-h2] at hm;obtain⟨x,hx,he⟩:=lO.1 hm;exact absurd (congrArg Prod.fst he) (h1 x hx)
 ·have hv:x.val=v:=hu (x.key,x.val) (by rw[<-h2];exact lO.2 ⟨x,lZ h3,rfl⟩) h4;simp[lS,lL ht,lT hb,K.check w _ key hk,h1,hv,lF]
theorem Z8.store(h:Z8 w b es)(K:KeyOk P k ok)(ht:P.underlying t=some (.map k e))(hes:∀ p ∈ es,ok p.1)(hk:ok key)(hn:∀ p ∈ es,p.1 ≠ key)(v:Value) :
  ∃ w',(l9 t (.map (some b)) key v).run P w=.ok () w'/\Z8 w' b (es++[(key,v)])/\w.mapTurned w' b:=by
 obtain⟨xs,clock,hb,h2⟩:=h;rcases K.find w key hk xs.toList (Z1o h2 hes) with ⟨h1,_⟩ | ⟨j,x,_,h3,h4⟩
 ·refine⟨setBlock w b (.map (xs.push ⟨key,v,clock⟩) (clock+1)),?_,⟨xs.push ⟨key,v,clock⟩,clock+1,?_,?_⟩,⟨xs,clock,_,_,hb,rfl⟩⟩
  ·simp[l9,lL ht,lT hb,K.check w false key hk,h1,MapKept.run_setObj_map _ hb,lF,setBlock]
  ·obtain⟨hl,_⟩:=lX.1 hb;simp[setBlock,hl]
  ·simp[h2]
 ·exact absurd h4 (hn (x.key,x.val) (by rw[<-h2];exact lO.2 ⟨x,lZ h3,rfl⟩))
theorem Z8.len(h:Z8 w b es)(ht:P.underlying t=some (.map k e))(ty:TypeId):(Builtin.len_ #[t] ty #[.map (some b)]).run P w=.ok (.int .i64 es.length) w:=by
 obtain⟨xs,clock,hb,h2⟩:=h;have hl:(es.length:Int)=xs.size:=by rw[<-h2];simp
 simp[Builtin.len_,lL ht,lT hb,lF,goInt,hl]
end
def Ue(v:Value):Prop:=∃ d:Str,d.length=32/\v=.agg (d.map B).toArray
def Z1p(v:Value):Prop:=∃ r:PRef,r.com.length=32/\v=Y8 r
theorem Zdd(w:World)(em:Bool)(d:Str)(hd:d.length=32):(lY em 10000 59 (.agg (d.map B).toArray)).run lA w=.ok () w:=by
 iterate 32 (rcases d with _ | ⟨_,d⟩;· (exfalso;simp at hd;done))
 obtain rfl:d=[]:=by
  simp only[lG] at hd;exact nA.1 (by omega)
 kernel_rfl
theorem Zde(w:World)(em:Bool)(r:PRef)(hr:r.com.length=32):(lY em 10000 261 (Y8 r)).run lA w=.ok () w:=by
 obtain⟨o,d,n⟩:=r;dsimp only at hr
 iterate 32 (rcases d with _ | ⟨_,d⟩;· (exfalso;simp at hr;done))
 obtain rfl:d=[]:=by
  simp only[lG] at hr;exact nA.1 (by omega)
 kernel_rfl
theorem Z7a{xs ys:Str}(h:xs.map B=ys.map B):xs=ys:=List.map_inj_right (fun a b hab=>Z5q (by injection hab)) |>.1 h
theorem Zdf{xs ys:Str}:((Value.agg (xs.map B).toArray)=.agg (ys.map B).toArray) ↔ xs=ys:=by
 constructor
 ·intro h
  injection h with h
  exact Z7a (by simpa using congrArg Array.toList h)
 ·rintro rfl;rfl
theorem Zdg{r s:PRef}(h:Z4 r=Z4 s)(hr:r.com.length=32)(hs:s.com.length=32):r=s:=by
 obtain⟨o,d,n⟩:=r;obtain⟨o',d',n'⟩:=s;simp only[Z4,List.cons.injEq] at h;obtain⟨h1,h2⟩:=h;have h3:=List.append_inj h2 (by simp_all);have h4:=Z7a h3.1;have h5:=h3.2
 simp_all
theorem Z3r{r s:PRef}(hr:r.com.length=32)(hs:s.com.length=32):(Y8 r=Y8 s) ↔ r=s:=by
 constructor
 ·intro h;unfold Y8 at h
  injection h with h
  exact Zdg (by simpa using congrArg Array.toList h) hr hs
 ·rintro rfl;rfl
theorem Ja:KeyOk lA 59 Ue where
 check:=fun w em v ⟨d,hd,hv⟩=>by rw[hv];exact Zdd w em d hd
 find:=fun w x hx es hes=>by
  rw[run_findKey_eq w (by kernel_rfl)];simpa using Z3q w (ok:=Ue) (fun x y ⟨d,hd,hx⟩ ⟨d',hd',hy⟩=>by
   have h:=Z18 (P:=lA) w 9999 59 5 32 underlying59 underlying5 (by kernel_rfl) d d' hd hd' (fun a b=>by rw[run_equalIn_int (P:=lA) w 9998 5 .u8 .u8 (bv a) (bv b) underlying5,Z17]);rw[hx,hy];exact⟨_,h,by rw[Zdf,beq_iff_eq]⟩) hx es 0 hes
theorem Z7b:KeyOk lA 261 Z1p where
 check:=fun w em v ⟨d,hd,hv⟩=>by rw[hv];exact Zde w em d hd
 find:=fun w x hx es hes=>by
  rw[run_findKey_eq w (by kernel_rfl)];simpa using Z3q w (ok:=Z1p) (fun x y ⟨d,hd,hx⟩ ⟨d',hd',hy⟩=>by
   have h:=Z3o w d d' hd hd';rw[hx,hy];refine⟨_,h,?_⟩;rw[Z3r hd hd'];cases d;cases d'
   simp) hx es 0 hes
end Go.Proofs.YtefjlobdifjogaaGreatDoor
end
section
set_option maxRecDepth 100000
set_option maxHeartbeats 1000000
open Go.Proofs.Tryz
namespace Go.Proofs.YtefjlobdifjogaaGreatDoor
open Go.RowKit
def Yl(r:PRef)(b:UInt8)(gone:Bool)(l rt:Value):List Value:=Z4 r++[B b,.bool gone,l,rt]
abbrev Z0:Value:=.slice none 0 0
structure TreeAt (w:World) (tb nb mb ab:Nat) (seen:Int) (es us:List (Value × Value)) (right:Value):Prop where
 tree:Blk w tb 342 [.pointer (some ⟨nb,0,none⟩),.map (some mb),.map (some ab),.int .i64 seen]
 root:Blk w nb 332 (Yl Zh 0 true Z0 right)
 by_:Z8 w mb es
 added:Z8 w ab us
theorem TreeAt.below{w w':World}{tb nb mb ab:Nat}{seen:Int}{es us:List (Value × Value)}{right:Value}(h:TreeAt w tb nb mb ab seen es us right)(hb:Below w.heap.size w w'):TreeAt w' tb nb mb ab seen es us right :=
 ⟨h.tree.below hb h.tree.lt,h.root.below hb h.root.lt,h.by_.below hb h.by_.lt,h.added.below hb h.added.lt⟩
theorem Z1q(tb nb mb ab:Nat)(seen:Int)(es us:List (Value × Value))(right:Value)(w:World)(h:TreeAt w tb nb mb ab seen es us right) :
  Calls lA 234 #[.pointer (some ⟨tb,0,none⟩)] w fun e w'=>e=.returned (.bool true)/\w'=w:=by
 have c0:w.cell? ⟨tb,0,none⟩=some (.pointer (some ⟨nb,0,none⟩)):=by rw[h.tree.cell];rfl
 clear h;go_enter func234,ntmps234;go_wp2;go_ret;exact⟨rfl,rfl⟩
theorem Z8.new_at{w:World}{b:Nat}(h:b=w.heap.size):Z8 (w.alloc (.map #[] 0)) b []:=by
 subst h;exact Z8.new w
theorem Z3s(w:World):Calls lA 167 #[] w fun e w'=>∃ tb nb mb ab,e=.returned (.pointer (some ⟨tb,0,none⟩))/\TreeAt w' tb nb mb ab 0 [] [] Z0/\w.heap.size<=nb/\nb<mb/\mb<ab/\ab<tb/\Below w.heap.size w w':=by
 have hmm:=@run_makeMap lA;go_enter func167,ntmps167;go_wp2;go_ret;refine⟨w.heap.size+1+1+1,w.heap.size,w.heap.size+1,w.heap.size+1+1,rfl,⟨Blk.new_at (cs:=[.pointer (some ⟨w.heap.size,0,none⟩),.map (some (w.heap.size+1)),.map (some (w.heap.size+1+1)),.int .i64 0]) (by simp),?_,?_,?_⟩,lM _,by omega,by omega,by omega,?_⟩
 ·exact (((Blk.new_at (cs:=Yl Zh 0 true Z0 Z0) rfl).alloc _).alloc _).alloc _
 ·exact ((Z8.new_at (by simp)).alloc _).alloc _
 ·exact (Z8.new_at (by simp)).alloc _
 ·exact ((bL.alloc (by simp) _).alloc (by simp;omega) _).alloc (by simp;omega) _
theorem Z1r{P:Program}{fn:Func}{R:Ending->World->Prop}{a:Act}{w:World}{p u v:Tmp}{ty:TypeId}(hres:fn.results=#[.cell p ty,.tmp u,.tmp v])(g:Nat)(t:TypeId)(cs:List Value)(d:TypeDesc)
  (hp:a.tmps.getD p undef=.pointer (some ⟨g,0,none⟩)) (hg:Blk w g t cs) (hu:P.underlying ty=some d) (hd:(match d with | .struct _ | .array _ _=>true | _=>false)=true)
  (hi:(P.info? ty).map (·.size)=some cs.length) (hdef:a.defers=[]) (x y:Value) (hx:a.tmps.getD u undef=x) (hy:a.tmps.getD v undef=y) (hR:R (.returned (.tuple #[.agg cs.toArray,x,y])) w):bodyPost P fn R .ret a w:=by
 refine l0 (v:=.tuple #[.agg cs.toArray,x,y]) ?_ hdef hR;have hp':a.tmps[p]?.getD undef=.pointer (some ⟨g,0,none⟩):=by simpa using hp
 have hx':a.tmps[u]?.getD undef=x:=by simpa using hx
 have hy':a.tmps[v]?.getD undef=y:=by simpa using hy
 simp[results,hres,hp',hx',hy',asAddr,run_loadVar_row w g t ty cs.toArray (0,0) d hg hu hd (by simpa using hi),lF]
theorem Zdh{P:Program}{t k e:TypeId}(ht:P.underlying t=some (.map k e))(w:World):(nB t (some (.int .i64 0))).run P w=.ok (.map (some w.heap.size)) (w.alloc (.map #[] 0)):=by
 simp[nB,lL ht,asInt,asIntOf,lF]
end Go.Proofs.YtefjlobdifjogaaGreatDoor
end
section
open Go.Proofs.Tryz
namespace Go.Proofs
open Go.Shelf
def Tryz.lays169_ren:lP:=⟨fun | 169=>311 | n=>n,fun | 70=>422 | 9=>9 | 0=>0 | 72=>424 | 37=>57 | 127=>448 | 3=>3 | 5=>5 | n=>n,fun | n=>n⟩
theorem Tryz.lays169:Go.Proofs.Lays.n169 lA Tryz.lays169_ren:={
 mixed:=by kernel_rfl
 f169:=func311.trans (congrArg some (by kernel_rfl))
 t0:=underlying0
 a0:=isAgg0
 z0:=sizeOf0
 v0:=zeroValue0
 t3:=underlying3
 a3:=isAgg3
 z3:=sizeOf3
 v3:=zeroValue3
 t9:=underlying9
 a9:=isAgg9
 z9:=sizeOf9
 v9:=zeroValue9
 t37:=underlying57
 a37:=isAgg57
 z37:=sizeOf57
 v37:=zeroValue57
 t70:=underlying422
 a70:=isAgg422
 z70:=sizeOf422
 v70:=zeroValue422
 t72:=underlying424
 a72:=isAgg424
 z72:=sizeOf424
 v72:=zeroValue424
 t127:=underlying448
 a127:=isAgg448
 z127:=sizeOf448
 v127:=zeroValue448 }
theorem Tryz.Builder_Extra_169:Builder.Extra lA Tryz.lays169_ren:={
 sizeBuilder:=by kernel_rfl
 liesBuilder:=by kernel_rfl
 t5:=underlying5
 a5:=isAgg5
 z5:=sizeOf5
 v5:=zeroValue5
 infoByte:=by kernel_rfl
 cellsByte:=by kernel_rfl
 sizeByte:=by kernel_rfl
 neB5:=by decide }
open Go.RowKit in
theorem Tryz.Builder_String_any(B b:Nat)(l:List UInt8)(w:World)(h:Lib.IsBuilder 424 5 B b (lB l) w)(hBw:B<=w.heap.size) :
  Calls lA 311 #[.pointer (some ⟨b,0,none⟩)] w fun e w'=>e=.returned (.string ⟨l.toArray⟩)/\Below B w w':=Any.Builder_String_any Tryz.lays169 Tryz.Builder_Extra_169 B b l w h hBw
def Tryz.lays125_ren:lP:=⟨fun | 125=>225 | 128=>284 | 129=>285 | n=>n,fun | 46=>226 | 3=>3 | 51=>217 | 53=>225 | 4=>4 | 5=>5 | 9=>9 | n=>n,fun | n=>n⟩
theorem Tryz.lays125:Go.Proofs.Lays.n125 lA Tryz.lays125_ren:={
 mixed:=by kernel_rfl
 f125:=func225.trans (congrArg some (by kernel_rfl))
 f128:=func284.trans (congrArg some (by kernel_rfl))
 f129:=func285.trans (congrArg some (by kernel_rfl))
 t3:=underlying3
 a3:=isAgg3
 z3:=sizeOf3
 v3:=zeroValue3
 t4:=underlying4
 a4:=isAgg4
 z4:=sizeOf4
 v4:=zeroValue4
 t5:=underlying5
 a5:=isAgg5
 z5:=sizeOf5
 v5:=zeroValue5
 t9:=underlying9
 a9:=isAgg9
 z9:=sizeOf9
 v9:=zeroValue9
 t46:=underlying226
 a46:=isAgg226
 z46:=sizeOf226
 v46:=zeroValue226
 t51:=underlying217
 a51:=isAgg217
 z51:=sizeOf217
 v51:=zeroValue217
 t53:=underlying225
 a53:=isAgg225
 z53:=sizeOf225
 v53:=zeroValue225 }
theorem Tryz.bits_Len(x:Int)(w:World)(h0:0<=x)(h1:x<=18446744073709551615) :
  Calls lA 225 #[.int .u64 x] w fun e w'=>e=.returned (.int .i64 (Lib.bitLen x.toNat))/\w'=w:=Any.bits_Len Tryz.lays125 x w h0 h1
def Tryz.lays106_ren:lP:=⟨fun | 106=>222 | 213=>275 | 265=>333 | n=>n,fun | 9=>9 | 3=>3 | n=>n,fun | n=>n⟩
theorem Tryz.lays106:Go.Proofs.Lays.n106 lA Tryz.lays106_ren:={
 mixed:=by kernel_rfl
 f106:=func222.trans (congrArg some (by kernel_rfl))
 f213:=func275.trans (congrArg some (by kernel_rfl))
 f265:=func333.trans (congrArg some (by kernel_rfl))
 t3:=underlying3
 a3:=isAgg3
 z3:=sizeOf3
 v3:=zeroValue3
 t9:=underlying9
 a9:=isAgg9
 z9:=sizeOf9
 v9:=zeroValue9 }
open Go.RowKit in
theorem Tryz.strings_Compare(a b:ByteArray)(w:World) :
  Calls lA 222 #[.string a,.string b] w fun e w'=>e=.returned (.int .i64 (Lib.compareBytes a.data.toList b.data.toList))/\w'=w:=Any.strings_Compare Tryz.lays106 a b w
def Tryz.lays137_ren:lP:=⟨fun | 137=>170 | 217=>241 | 266=>294 | n=>n,fun | 9=>9 | 5=>5 | 3=>3 | n=>n,fun | n=>n⟩
theorem Tryz.lays137:Go.Proofs.Lays.n137 lA Tryz.lays137_ren:={
 mixed:=by kernel_rfl
 f137:=func170.trans (congrArg some (by kernel_rfl))
 f217:=func241.trans (congrArg some (by kernel_rfl))
 f266:=func294.trans (congrArg some (by kernel_rfl))
 t3:=underlying3
 a3:=isAgg3
 z3:=sizeOf3
 v3:=zeroValue3
 t5:=underlying5
 a5:=isAgg5
 z5:=sizeOf5
 v5:=zeroValue5
 t9:=underlying9
 a9:=isAgg9
 z9:=sizeOf9
 v9:=zeroValue9 }
open Go.RowKit in
theorem Tryz.strings_IndexByte(s:ByteArray)(c:Int)(w:World) :
  Calls lA 170 #[.string s,.int .u8 c] w fun e w'=>e=.returned (.int .i64 (lQ s.data.toList c.toNat.toUInt8))/\w'=w:=Any.strings_IndexByte Tryz.lays137 s c w
def Tryz.lays99_ren:lP:=⟨fun | 99=>60 | 206=>143 | n=>n,fun | 9=>9 | 4=>4 | 3=>3 | n=>n,fun | n=>n⟩
theorem Tryz.lays99:Go.Proofs.Lays.n99 lA Tryz.lays99_ren:={
 mixed:=by kernel_rfl
 f99:=func60.trans (congrArg some (by kernel_rfl))
 f206:=func143.trans (congrArg some (by kernel_rfl))
 t3:=underlying3
 a3:=isAgg3
 z3:=sizeOf3
 v3:=zeroValue3
 t4:=underlying4
 a4:=isAgg4
 z4:=sizeOf4
 v4:=zeroValue4
 t9:=underlying9
 a9:=isAgg9
 z9:=sizeOf9
 v9:=zeroValue9 }
open Go.RowKit Go.Lib in
theorem Tryz.strings_HasPrefix(s p:ByteArray)(w:World) :
  Calls lA 60 #[.string s,.string p] w fun e w'=>e=.returned (.bool (Lib.hasPrefix s.data.toList p.data.toList))/\w'=w:=Any.strings_HasPrefix Tryz.lays99 s p w
end Go.Proofs
end
section
set_option maxRecDepth 100000
set_option maxHeartbeats 4000000
open Go.Lib renaming hid → iD
open Go.Proofs.Tryz
section
namespace Go.Proofs.YtefjlobdifjogaaGreatDoor
open Go.RowKit
def Z7m(x:Int)(c:UInt8):Prop :=
 (65<=x/\x<=90/\J8 c=true) ∨ (97<=x/\x<=122/\J8 c=true) ∨ (48<=x/\x<=57/\J8 c=true) ∨ (x=45/\J8 c=true) ∨ (x=95/\J8 c=true) ∨ (x=46/\J8 c=true) ∨ (x=35/\J8 c=true) ∨ (x=64/\J8 c=true) ∨ (x=126/\J8 c=true) ∨
 (J8 c=false/\(x ≠ 45/\x ≠ 95/\x ≠ 46/\x ≠ 35/\x ≠ 64/\x ≠ 126)/\(x<48 ∨ (57<x/\x<65) ∨ (90<x/\x<97) ∨ 122<x))
instance (x:Int) (c:UInt8):Decidable (Z7m x c):=by unfold Z7m;infer_instance
theorem Zdy{s:Str}{k:Nat}(hk:k<s.length)(h:(s.take k).all J8=true)(hc:J8 s[k]=true):(s.take (k+1)).all J8=true:=by
 rw[nC hk,List.all_append,h];simp[hc]
theorem Zdz{s:Str}{k:Nat}(hk:k<s.length)(hc:J8 s[k]=false):Z6 s=false:=by
 have : s.all J8=false:=by
  rw[List.all_eq_false];exact⟨s[k],lH hk,by simp[hc]⟩
 simp[Z6,this]
theorem Ze0{s:Str}(h:s.all J8=true):Z6 s=(decide (1<=s.length) && decide (s.length<=24)):=by simp[Z6,h]
theorem Ze1(s:Str)(k:Nat)(hk:k<s.length)(w:World):(nD 9 (.string ⟨s.toArray⟩) (.int .i64 (k:Int))).run lA w=.ok (.int .u8 (bv s[k])) w:=by
 have h0:(⟨s.toArray⟩:ByteArray)[k]?=some s[k]:=by
  have hs:k<(⟨s.toArray⟩:ByteArray).size:=by simpa[l1] using hk
  rw[getElem?_pos (⟨s.toArray⟩:ByteArray) k hs];rfl
 simp[nD,asIntOf,lL underlying9,h0,bv]
theorem Jw(s:Str):(⟨s.toArray⟩:ByteArray).size=s.length:=by simp[l1]
theorem Z04{a b:Bool}(h:a=b):nE (.bool a)=.returned (.bool b):=by rw[h]
end Go.Proofs.YtefjlobdifjogaaGreatDoor
end
section
namespace Go.Proofs.YtefjlobdifjogaaGreatDoor
open Go.RowKit
def letters:List UInt8:=[65,66,67,68,69,70,71,72,73,74,75,76,77,78,79,80,81,82,83,84,85,86,87,88,89,90,97,98,99,100,101,102,103,104,105,106,107,108,109,110,111,112,113,114,115,116,117,118,119,120,121,122,48,49,50,51,52,53,54,55,56,57,45,95,46,35,64,126]
theorem Ze2:∀ n:Fin 256,decide (lQ letters (nF n.1)<0) = !J8 (nF n.1):=by decide +kernel
theorem letIx(c:UInt8):decide (lQ letters c<0) = !J8 c:=by
 have:=Ze2 ⟨c.toNat,c.toNat_lt⟩;simpa using this
theorem Ze3(c:UInt8)(w:World):Calls lA 170 #[.string ⟨letters.toArray⟩,.int .u8 (bv c)] w fun e w'=>e=.returned (.int .i64 (lQ letters c))/\w=w':=by
 have h:=Tryz.strings_IndexByte ⟨letters.toArray⟩ (bv c) w;have e:(bv c).toNat.toUInt8=c:=by unfold bv;simp
 rw[e] at h;exact h.mono fun e w' ⟨h1,h2⟩=>⟨h1,h2.symm⟩
theorem Vr(s:Str)(w:World)(hs:s.length<=140737488355328) :
  Calls lA 90 #[Z1 s] w fun e w'=>e=.returned (.bool (Z6 s))/\w=w':=by
 unfold Z1;have hsl:=Jw s;go_enter func90,ntmps90;go_wp2;go_loopw [6] (fun i wr=>∃ k:Nat,k<=s.length/\i=.int .i64 k/\Hid ((s.take k).all J8=true)/\Hid (w=wr)) (fun i _=>s.length - (intOf i).toNat)
 case atStart=>exact⟨0,lR _,rfl,iD (by simp),iD rfl⟩
 case round =>
  obtain⟨k,hk,rfl,ha,hw⟩:=hrel;by_cases hlt:k<s.length
  ·have hidx:=Ze1 s k hlt;have hix:=letIx s[k];have hc:=Ze3 s[k];obtain⟨x,hx⟩:∃ x,x=bv s[k]:=⟨_,rfl⟩;obtain⟨y,hy⟩:∃ y,y=lQ letters s[k]:=⟨_,rfl⟩;rw[<-hx] at hidx hc;rw[<-hy] at hix hc;clear hx hy;replace hc:=iD hc;cases hL:J8 s[k] with
   | true =>
    rw[hL] at hix;have d1:decide (y<0)=false:=hix;have hnext:=iD (Zdy hlt ha.out hL);clear hL hix;go_wp2_with ((go_at_call 170;refine (hc.out _).mono ?_;rintro e w' ⟨rfl,rfl⟩));go_roundw
    case rel=>exact⟨k+1,by omega,by go_num,hnext,hw⟩
    case measure=>simp[intOf];omega
   | false =>
    rw[hL] at hix;have d1:decide (y<0)=true:=hix;have hbad:=iD (Zdz hlt hL);clear hL hix;go_wp2_with ((go_at_call 170;refine (hc.out _).mono ?_;rintro e w' ⟨rfl,rfl⟩));go_ret;exact⟨Z04 hbad.out.symm,hw.out⟩
  ·obtain rfl:k=s.length:=by omega
   have hall:Hid (s.all J8=true):=iD (by have:=ha.out;rwa [lU] at this);have he:=iD (Ze0 hall.out);by_cases h1:1<=s.length
   ·have d1:decide (1<=(s.length:Int))=true:=decide_eq_true (by omega);have e1:Hid (Z6 s=decide ((s.length:Int)<=24)):=iD (by rw[he.out,decide_eq_true h1,Bool.true_and];simp;omega);go_wp2;go_ret;exact⟨Z04 e1.out.symm,hw.out⟩
   ·have d1:decide (1<=(s.length:Int))=false:=decide_eq_false (by omega);have e1:Hid (Z6 s=false):=iD (by rw[he.out,decide_eq_false h1];rfl);go_wp2;go_ret;exact⟨Z04 e1.out.symm,hw.out⟩
end Go.Proofs.YtefjlobdifjogaaGreatDoor
end
section
namespace Go.Proofs.YtefjlobdifjogaaGreatDoor
open Go.RowKit
def BIs(B b:Nat)(s:Str)(w:World):Prop:=Lib.IsBuilder 424 5 B b (lB s) w
def BAt(B b:Nat)(s:Str)(w:World):Prop:=l2 424 5 B b (.pointer (some ⟨b,0,none⟩)) (lB s) w
theorem Z7n:(lA.info? 424).map (·.size)=some 2:=by kernel_rfl
theorem Ze4(b:Nat)(w:World)(h0:w.cell? ⟨b,0,none⟩=some (.pointer (some ⟨b,0,none⟩))) :
  Calls lA 343 #[.pointer (some ⟨b,0,none⟩)] w fun e w'=>e=.returned (.tuple #[])/\w=w':=by
 obtain⟨j,hj,_⟩:=Option.map_eq_some_iff.1 Z7n;have hq:=Lib.run_neq_ptr_same (P:=lA) w ⟨b,0,none⟩ underlying422 hj;go_enter func343,ntmps343;go_wp2;go_end0;exact⟨rfl,rfl⟩
theorem Ze5(b:Nat)(w:World)(h0:w.cell? ⟨b,0,none⟩=some (.pointer none))(hsh:w.shape? b=some (424,2))(hfz:w.frozen? ⟨b,0,none⟩=false) :
  Calls lA 343 #[.pointer (some ⟨b,0,none⟩)] w fun e w'=>e=.returned (.tuple #[])/\w'=w.setCell ⟨b,0,none⟩ (.pointer (some ⟨b,0,none⟩)):=by
 obtain⟨j,hj,hjs⟩:=Option.map_eq_some_iff.1 Z7n;have c1:=Lib.run_to_unsafe (P:=lA) w ⟨b,0,none⟩ underlying422 underlying462 hj (by rw[hjs];decide) hsh (Nat.zero_lt_succ 1);have c2:=Lib.run_from_unsafe (P:=lA) w ⟨b,0,none⟩ underlying462 underlying422 hj hsh (by kernel_rfl);go_enter func343,ntmps343;go_wp2;rw[run_callFunc_extern func357 (by kernel_rfl) (by kernel_rfl) (by kernel_rfl) (e:=Extern.AbiNoEscape.same) (by kernel_rfl)];rw[Lib.run_noEscape];simp only[lF];rw[Oper.upon_value];go_wp2;go_end0;exact⟨rfl,rfl⟩
structure KeepTag (w w':World):Prop where
 blk:∀ g t cs,Blk w g t cs->t ≠ 424->t ≠ 5->Blk w' g t cs
 other:∀ (k:Nat) (o:Obj),w.heap[k]?=some o->o.isCells=false->w'.heap[k]?=some o
theorem KeepTag.refl(w:World):KeepTag w w:=⟨fun _ _ _ h _ _=>h,fun _ _ h _=>h⟩
theorem KeepTag.trans{w w1 w2:World}(h:KeepTag w w1)(h':KeepTag w1 w2):KeepTag w w2:=⟨fun _ _ _ hb h1 h2=>h'.blk _ _ _ (h.blk _ _ _ hb h1 h2) h1 h2,fun _ _ ho hc=>h'.other _ _ (h.other _ _ ho hc) hc⟩
theorem KeepTag.set_{w:World}{b i:Nat}{cs:Array Value}(hb:w.heap[b]?=some (.cells cs 424 (0,0)))(u:Value):KeepTag w (w.setCell ⟨b,i,none⟩ u):=⟨fun g _ _ hB h1 _ =>
 hB.far (p:=⟨b,i,none⟩) (fun e=>by
  have e':g=b:=e;subst e';unfold Blk at hB;rw[hb] at hB
  injection hB with hB
  injection hB with _ ht
  exact h1 ht.symm) u,(KeepsOthers.setCell w _ u).same⟩
theorem KeepTag.grown{w w':World}{B:Nat}{v:Value}{n:Nat}{xs:List Value}(ho:w.ownsRow B 5 1 v n xs)(h:w.grownBy w' v.ownBlock):KeepTag w w':=⟨fun g _ _ hB _ h2 =>
 hB.grown h (fun e=>by
  rcases ho.2 with ⟨rfl,_⟩ | ⟨g',cap,cur,rfl,_,hg,_⟩
  ·cases e
  ·have e':g=g':=by simpa[l3] using e
   subst e';unfold Blk at hB;rw[hg] at hB
   injection hB with hB
   injection hB with _ ht
   exact h2 ht.symm),(KeepsOthers.of_grownBy h (fun j o e hj=>by
  rcases ho.2 with ⟨rfl,_⟩ | ⟨g',cap,cur,rfl,_,hg,_⟩
  ·cases e
  ·have e':g'=j:=by simpa[l3] using e
   subst e';rw[hg] at hj;cases hj
   rfl)).same⟩
theorem Ze6(B b:Nat)(s:Str)(w:World)(h:BIs B b s w) :
  Calls lA 343 #[.pointer (some ⟨b,0,none⟩)] w fun e w'=>e=.returned (.tuple #[])/\BAt B b s w'/\Below B w w'/\KeepTag w w':=by
 rcases h with h | h
 ·refine (Ze5 b w h.cell0 h.shape h.frozen0).mono ?_;rintro e w' ⟨rfl,rfl⟩;refine⟨rfl,h.used _,(lD B w).setCell (p:=⟨b,0,none⟩) h.1 _,?_⟩;obtain⟨_,v,hbk,_⟩:=h;exact KeepTag.set_ hbk _
 ·refine (Ze4 b w h.cell0).mono ?_;rintro e w' ⟨rfl,rfl⟩;exact⟨rfl,h,lD B _,KeepTag.refl _⟩
theorem Ze7:∃ i,lA.info? 5=some i/\i.zero=some (.int .u8 0)/\i.size=1/\i.bytes=1:=by
 have h:=Z15.info;cases hq:lA.info? 5 with
 | none=>simp[hq] at h
 | some i =>
  simp only[hq,Option.map_some,Option.some.injEq,Prod.mk.injEq] at h;exact⟨i,rfl,h.1,h.2.1,h.2.2⟩
theorem Ze8(s:Str):(lB s).length=s.length:=by simp[lB]
theorem Ze9(s t:Str):lB (s++t)=lB s++l4 ⟨t.toArray⟩:=by simp[lB,l4]
theorem Z3x(B b:Nat)(s t:Str)(w:World)(h:BIs B b s w)(hl:s.length+t.length<=140737488355328)(hBw:B<=w.heap.size) :
  Calls lA 310 #[.pointer (some ⟨b,0,none⟩),.string ⟨t.toArray⟩] w fun e w'=>e=.returned (.tuple #[.int .i64 t.length,.nilIface])/\BIs B b (s++t) w'/\Below B w w'/\KeepTag w w':=by
 obtain⟨i0,hi,hz0,hz1,hz2⟩:=Ze7;have hcc:=iD (Ze6 B b s w h);have htl:(⟨t.toArray⟩:ByteArray).size=t.length:=by simp[l1]
 have hcl:=iD (Ze8 s);have happ:=iD (Ze9 s t);replace hi:=iD hi;replace hz0:=iD hz0;replace hz1:=iD hz1;replace hz2:=iD hz2;clear h;go_enter func310,ntmps310;go_wp2_with fail;refine hcc.out.mono ?_;rintro e w1 ⟨rfl,h1,hb1,hk1⟩;replace hk1:=iD hk1;obtain⟨hB,v,hbk,hown,hne⟩:=h1;have c0:w1.cell? ⟨b,0,none⟩=some (.pointer (some ⟨b,0,none⟩)):=by rw[lV hbk];rfl
 have c1:w1.cell? ⟨b,1,none⟩=some v:=by rw[lV hbk];rfl
 have hs1:=hb1.size;replace hown:=iD hown;replace hbk:=iD hbk;replace hne:=iD hne;replace hb1:=iD hb1;go_wp2_with (at_builtin;refine Lib.wpList_append_own_string _ rfl _ _ 57 9 rfl B 5 i0 underlying57 underlying9 hi.out hz0.out hz1.out hz2.out _ _ _ rfl hown.out ⟨t.toArray⟩ rfl ?c3 ?c4 ?c5 ?_)
 case c3=>rw[hcl.out,htl];unfold maxLen;omega
 case c4=>rw[hcl.out,htl];omega
 case c5=>omega
 intro v' w2 hown' hgrow _;have hlt:b<w1.heap.size:=by
  rcases Nat.lt_or_ge b w1.heap.size with h' | h'
  ·exact h'
  ·have:=hbk.out;simp[Array.getElem?_eq_none h'] at this
 have hb2:w2.heap[b]?=some (.cells #[.pointer (some ⟨b,0,none⟩),v] 424 (0,0)):=by
  rw[hgrow.block b hlt (fun e=>hne.out e.symm)];exact hbk.out
 have d0:w2.cell? ⟨b,0,none⟩=some (.pointer (some ⟨b,0,none⟩)):=by rw[lV hb2];rfl
 have d1:w2.cell? ⟨b,1,none⟩=some v:=by rw[lV hb2];rfl
 have f1:w2.frozen? ⟨b,1,none⟩=false:=Lib.frozen_of_heap hb2 1;obtain⟨ao,n',cap,rfl⟩:∃ ao n' cap,v'=.slice ao n' cap:=by
  rcases hown'.2 with ⟨hv,_⟩ | ⟨g,cap,cur,hv,_⟩
  ·exact⟨_,_,_,hv⟩
  ·exact⟨_,_,_,hv⟩
 replace hown':=iD hown';replace hgrow:=iD hgrow;replace hb2:=iD hb2;go_wp2;go_ret2;refine⟨by rw[<-htl];rfl,.inr ?_,?_,(hk1.out.trans (KeepTag.grown hown.out hgrow.out)).trans (KeepTag.set_ hb2.out _)⟩
 ·rw[happ.out];exact l2.put (T:=424) (e:=5) hB hb2.out (bs':=lB s++l4 ⟨t.toArray⟩) (by rw[lC,Lib.strCells_length,htl];exact hown'.out) (by decide)
 ·exact (hb1.out.grown hgrow.out (Nat.le_trans hBw hs1) (fun k hk=>(hown.out.lt k hk).1)).setCell (p:=⟨b,1,none⟩) hB _
end Go.Proofs.YtefjlobdifjogaaGreatDoor
end
section
namespace Go.Proofs.YtefjlobdifjogaaGreatDoor
open Go.RowKit
def Qk(T:Tab):Nat->Option Str
 | 0=>none
 | k+1=>(T[k]?).map (·.name)
theorem Z7o(T:Tab)(k:Nat)(hk:k<T.length):Qk T (k+1)=some T[k].name:=by simp[Qk,hk]
theorem Zea(T:Tab)(k:Nat)(hk:k<T.length):J9 (Qk T k) (T.drop k) =
  if Z6 T[k].name then (if O1 (Qk T k) T[k].name then (if T[k].heads=[] then 5 else if Yp T[k].heads=0 then J9 (Qk T (k+1)) (T.drop (k+1)) else Yp T[k].heads) else 7) else 11:=by
 rw[Z7o T k hk]
 conv=>lhs;rw[List.drop_eq_getElem_cons hk]
 rfl
theorem Zeb(p:Option Str):J9 p []=0:=by cases p <;> rfl
def Q3:List Value:=[.string ⟨#[]⟩,.slice none 0 0]
theorem Z1y(w:World)(T:TypeId)(z cs:List Value):Blk ((w.alloc (.cells z.toArray T)).setRow w.heap.size cs.toArray) w.heap.size T cs/\Below w.heap.size w ((w.alloc (.cells z.toArray T)).setRow w.heap.size cs.toArray) :=
 ⟨(Blk.new_at (cs:=z) rfl).setRow_same cs,below_setRow bL (lM _) _⟩
theorem toL(a:Str):(⟨a.toArray⟩:ByteArray).toList=a:=by rw[Lib.toList_data]
attribute [local go_sem] toL
theorem G4{a b:Int}(h:a=b):nE (.int .i64 a)=.returned (.int .i64 b):=by rw[h]
theorem Z7p(T:Tab)(v:Value)(ok:Nat->Prop)(w:World)(h:TabIs w ok v T)(hf:TFit T) :
  Calls lA 256 #[v] w fun e w'=>e=.returned (.int .i64 (Xk T))/\Below w.heap.size w w':=by
 obtain⟨A,c,rfl,hc⟩:=h.form;have hlen:T.length<=3518437208832:=hf.len;have hok:=iD hf.ok;replace h:=iD h;clear hc hf;by_cases h32:32<T.length
 ·have he:Hid (Xk T=4):=iD (by unfold Xk;rw[if_pos h32]);go_enter func256,ntmps256;go_wp2;go_ret;exact⟨G4 he.out.symm,lD _ _⟩
 ·have h32':T.length<=32:=by omega
  have he:Hid (Xk T=J9 none T):=iD (by unfold Xk;rw[if_neg h32]);clear h32;go_enter func256,ntmps256;go_wp2;go_loopw [11] (fun i wr=>∃ k:Nat,k<=T.length/\i=.int .i64 k/\Hid (J9 none T=J9 (Qk T k) (T.drop k))/\Below w.heap.size w wr) (fun i _=>T.length - (intOf i).toNat)
  case atStart=>exact⟨0,lR _,rfl,iD rfl,lD _ _⟩
  case round =>
   obtain⟨k,hk,rfl,hm,hb⟩:=hrel;by_cases hlt:k<T.length
   ·have hw0:=h.out.stayB hb;obtain⟨b,o,u,rfl,_,hbl,hU,c0,c1⟩:=hw0.br k hlt;have hat:=Zea T k hlt;rw[<-hm.out] at hat;have hbf:=hok.out T[k] (lH hlt);obtain⟨n,hn⟩:∃ n,n=T[k].name:=⟨_,rfl⟩;obtain⟨hs,hhs⟩:∃ hs,hs=T[k].heads:=⟨_,rfl⟩;have hnl:n.length<=140737488355328:=by rw[hn];exact hbf.name
    have hhf:HFit hs:=by rw[hhs];exact hbf.heads
    rw[<-hn,<-hhs] at hat;rw[<-hn] at c0;rw[<-hhs] at hU;obtain⟨UA,uc,rfl,huc,_⟩:=id hU;have hhl:hs.length<=4398046511104:=hhf.len;have hcells:=iD (Z00 c0 c1);obtain⟨hB1,hb1⟩:=Z1y wr 205 Q3 [Z1 n,.slice UA hs.length uc];obtain⟨W1,hW1⟩:∃ W1,W1=(wr.alloc (.cells Q3.toArray 205)).setRow wr.heap.size [Z1 n,.slice UA hs.length uc].toArray:=⟨_,rfl⟩;rw[<-hW1] at hB1 hb1;replace hW1:=iD hW1;have hone:Hid (∀ v ∈ [Z1 n,lN UA hs.length uc],v.oneCell'=true):=iD (by simp[Z1,nG]);have hnm:=iD (Vr n W1 hnl);have hU1:=hU.stayB hb1;have hbW:=hb.trans (hb1.mono hb.size);replace hat:=iD hat;have hbs:=hb1.size;have hgl:wr.heap.size<W1.heap.size:=hB1.lt;have d0:W1.cell? ⟨wr.heap.size,0,none⟩=some (.string ⟨n.toArray⟩):=by rw[hB1.cell];rfl
    have d1:W1.cell? ⟨wr.heap.size,1,none⟩=some (.slice UA hs.length uc):=by rw[hB1.cell];rfl
    have i1:(0:Int)<=(k:Int):=by omega
    have i2:(k:Int)<(T.length:Int):=by omega
    have hp:Hid (0<k->∃ p,O1 (Qk T k) n=Zt p n/\W1.cell? ⟨b,o+(k - 1)*2,none⟩=some (.string ⟨p.toArray⟩)):=iD (fun h0=>by
     obtain⟨b',o',u',e',_,hbl',_,c0',_⟩:=hw0.br (k - 1) (by omega);cases e'
     refine⟨T[k - 1].name,?_,?_⟩
     ·obtain⟨j,rfl⟩:∃ j,k=j+1:=⟨k - 1,by omega⟩;rw[Z7o T j (by omega)];rfl
     ·rw[hb1.cell (p:=⟨b,_,none⟩) hbl'];exact c0')
    clear hn hhs hbf hw0 c0 c1 hm hU;cases hno:Z6 n with
    | false =>
     rw[hno] at hnm hat;have hfin:Hid (Xk T=11):=iD (by rw[he.out,hat.out];rfl);clear hno hat;go_wp2_with (first
      | (refine U8 205 (.tmp 14) rfl rfl b (o+k*2) rfl [Z1 n,.slice UA hs.length uc] hcells.out _ underlying205 rfl Q2 ?_;go_frame)
      | (refine Zd rfl 205 (.tmp 4) (.tmp 15) rfl wr.heap.size [Z1 n,.slice UA hs.length uc] rfl rfl 205 Q3 (Blk.new_at rfl) rfl Q2 hone.out ?_;rw[show (wr.alloc (lI #[l5 ⟨#[]⟩,lN none 0 0] 205)).setRow wr.heap.size [Z1 n,.slice UA hs.length uc].toArray=W1 from hW1.out.symm];go_frame)
      | (go_at_call 90;refine hnm.out.mono ?_;rintro e w' ⟨rfl,rfl⟩))
     go_ret;exact⟨G4 hfin.out.symm,hbW⟩
    | true =>
     rw[hno] at hnm hat;replace hat:Hid (J9 none T=if O1 (Qk T k) n then (if hs=[] then 5 else if Yp hs=0 then J9 (Qk T (k+1)) (T.drop (k+1)) else Yp hs) else 7):=iD (by rw[hat.out,if_pos rfl]);clear hno;go_wp2_with (first
      | (refine U8 205 (.tmp 14) rfl rfl b (o+k*2) rfl [Z1 n,.slice UA hs.length uc] hcells.out _ underlying205 rfl Q2 ?_;go_frame)
      | (refine Zd rfl 205 (.tmp 4) (.tmp 15) rfl wr.heap.size [Z1 n,.slice UA hs.length uc] rfl rfl 205 Q3 (Blk.new_at rfl) rfl Q2 hone.out ?_;rw[show (wr.alloc (lI #[l5 ⟨#[]⟩,lN none 0 0] 205)).setRow wr.heap.size [Z1 n,.slice UA hs.length uc].toArray=W1 from hW1.out.symm];go_frame)
      | (go_at_call 90;refine hnm.out.mono ?_;rintro e w' ⟨rfl,rfl⟩))
     rcases Nat.eq_zero_or_pos k with hk0 | hk1
     focus
      subst hk0;have g0:decide (0<((0:Nat):Int))=false:=by simp
      replace hat:Hid (J9 none T=if hs=[] then 5 else if Yp hs=0 then J9 (Qk T (0+1)) (T.drop (0+1)) else Yp hs):=iD (by rw[hat.out];rfl);go_quiet (fail)
     rotate_left
     focus
      have g0:decide (0<(k:Int))=true:=by simpa using hk1
      obtain⟨p,hpo,cp⟩:=hp.out hk1;obtain⟨t,ht⟩:∃ t,t=Zt p n:=⟨_,rfl⟩;have htl:Op.bytesLess p n=t:=ht.symm;rw[hpo,<-ht] at hat;clear hpo ht;have e1:IntKind.i64.wrap ((k:Int) - 1)=(k:Int) - 1:=IntWalk.i64_in _ (by omega);have e2:(0:Int)<=(k:Int) - 1:=by omega
      have e3:(k:Int) - 1<(T.length:Int):=by omega
      have e4:((k:Int) - 1).toNat=k - 1:=by omega
      go_quiet (fail);cases t
      ·have hfin:Hid (Xk T=7):=iD (by rw[he.out,hat.out];rfl);clear hat;go_wp2;go_ret;exact⟨G4 hfin.out.symm,lW hbW nq⟩
      replace hat:Hid (J9 none T=if hs=[] then 5 else if Yp hs=0 then J9 (Qk T (k+1)) (T.drop (k+1)) else Yp hs):=iD (by rw[hat.out,if_pos rfl]);clear e1 e2 e3 e4 htl cp
     all_goals
      have hB2:Blk (W1.drewN nq) wr.heap.size 205 [Z1 n,.slice UA hs.length uc]:=hB1.drewN nq;have hb2:Below w.heap.size w (W1.drewN nq):=lW hbW nq;have hU2:Ze (W1.drewN nq) ok (.slice UA hs.length uc) hs:=hU1;replace hU2:=iD hU2;clear hU1 hB1 hb1 hbW d0 d1 hW1 hp hnm hbs hgl g0;generalize W1.drewN nq=W2 at hB2 hb2 hU2 ⊢;have d1:W2.cell? ⟨wr.heap.size,1,none⟩=some (.slice UA hs.length uc):=by rw[hB2.cell];rfl
      clear hB2;by_cases h0:hs.length=0
      ·have g1:((hs.length:Int) == 0)=true:=by simp[h0]
       have hfin:Hid (Xk T=5):=iD (by rw[he.out,hat.out,if_pos (List.eq_nil_of_length_eq_zero h0)]);clear hat h0;go_wp2;go_ret;exact⟨G4 hfin.out.symm,hb2⟩
      ·have g1:((hs.length:Int) == 0)=false:=by rw[beq_eq_false_iff_ne];omega
       have hne:hs ≠ []:=fun e=>h0 (by rw[e];rfl);have hat2:=hat.out;rw[if_neg hne] at hat2;have hcall:=iD (Z6u hs _ ok W2 hU2.out hhf);obtain⟨x,hx⟩:∃ x,x=Yp hs:=⟨_,rfl⟩;rw[<-hx] at hat2 hcall;clear hat h0 hne hx;by_cases hx0:x=0
       ·subst hx0;have hnext:=iD (hat2.trans (if_pos rfl));clear hat2;go_wp2_with ((go_at_call 305;refine hcall.out.mono ?_;rintro e w3 ⟨rfl,hb3⟩));go_roundw
        case rel=>first | exact⟨k+1,by omega,by go_num,hnext,hb2.trans (hb3.mono hb2.size)⟩ | exact⟨0+1,by omega,by go_num,hnext,hb2.trans (hb3.mono hb2.size)⟩
        case measure=>simp[intOf];omega
       ·have g2:(x != 0)=true:=by simpa using hx0
        have hfin:Hid (Xk T=x):=iD (by rw[he.out,hat2,if_neg hx0]);clear hat2 hx0;go_wp2_with ((go_at_call 305;refine hcall.out.mono ?_;rintro e w3 ⟨rfl,hb3⟩));go_ret;exact⟨G4 hfin.out.symm,hb2.trans (hb3.mono hb2.size)⟩
   ·obtain rfl:k=T.length:=by omega
    have hf:Hid (Xk T=0):=iD (by rw[he.out,hm.out,List.drop_length,Zeb]);go_wp2;go_ret;exact⟨G4 hf.out.symm,hb⟩
end Go.Proofs.YtefjlobdifjogaaGreatDoor
end
section
section
namespace Go.Proofs.YtefjlobdifjogaaGreatDoor
open Go.RowKit
theorem Zec(l:List Str)(d:Str):K7 (l++[d])=K7 l++(32 :: Jc d):=by simp[K7]
theorem Z05:∀ {l:List Str},hOk l->(K7 l).length=l.length*65
 | [],_=>rfl
 | d :: l,h=>by
  have ih:=Z05 (l:=l) (fun x hx=>h x (by simp[hx]));have hd:(Jc d).length=64:=by rw[Gv,h d (by simp)]
  show ((32 :: Jc d)++K7 l).length=_;rw[lC,ih,lG,hd,lG];omega
theorem Zed(T:Tab)(b:Br):Jv (T++[b])=Jv T++Oo b:=by simp[Jv]
theorem Z7q{b:Br}(hb:bOk b)(ho:hOk b.heads):(Oo b).length<=545:=by
 obtain⟨h1,_,h3⟩:=hb;have h4:b.name.length<=24:=by
  simp only[Z6,Bool.and_eq_true,decide_eq_true_eq] at h1;exact h1.2
 have h5:b.heads.length<=8:=by
  unfold Yp at h3;split at h3
  ·cases h3
  ·omega
 unfold Oo;rw[lC,lC,Z05 ho];simp;omega
theorem Z1z:∀ {T:Tab},(∀ b ∈ T,bOk b)->tOk T->(Jv T).length<=T.length*545
 | [],_,_=>by simp[Jv]
 | b :: T,h,ho=>by
  have ih:=Z1z (T:=T) (fun x hx=>h x (by simp[hx])) (fun x hx=>ho x (by simp[hx]));have hb:=Z7q (h b (by simp)) (ho b (by simp));show (Oo b++Jv T).length<=_;rw[lC,lG];omega
end Go.Proofs.YtefjlobdifjogaaGreatDoor
end
section
namespace Go.Proofs.YtefjlobdifjogaaGreatDoor
open Go.RowKit
def Ki(T:Tab):Str:=if Xk T=0 then Jv T else []
theorem O4{α:Type}{l:List α}{k:Nat}(h:k<l.length):l.take (k+1)=l.take k++[l[k]]:=nC h
theorem Z3y{B b:Nat}{s:Str}{w w':World}(h:BIs B b s w)(hb:Below w.heap.size w w'):BIs B b s w':=by
 have key:∀ p,l2 424 5 B b p (lB s) w->l2 424 5 B b p (lB s) w':=by
  rintro p ⟨hB,v,hbk,hown,hne⟩;have hlt:b<w.heap.size:=(lX.1 hbk).1;exact⟨hB,v,(hb.block b hlt).trans hbk,Zj (L:=[]) hown (Touch.ofBelow hb) (by simp),hne⟩
 rcases h with h | h
 ·exact .inl (key _ h)
 ·exact .inr (key _ h)
theorem Zee(a b:Str):((⟨a.toArray⟩:ByteArray)++⟨b.toArray⟩)=⟨(a++b).toArray⟩:=by
 apply ByteArray.ext;simp
theorem Zef(T:Tab)(v:Value)(ok:Nat->Prop)(w:World)(h:TabIs w ok v T)(hf:TFit T) :
  Calls lA 260 #[v] w fun e w'=>e=.returned (.tuple #[Z1 (Ki T),.int .i64 (Xk T)])/\Below w.heap.size w w':=by
 obtain⟨A,c,rfl,hc⟩:=h.form;have hmay:=iD (Z7p T _ ok w h hf);have hlen:T.length<=3518437208832:=hf.len;unfold Z1;by_cases hm:Xk T=0
 ·have hpt:Hid (Ki T=Jv T):=iD (by unfold Ki;rw[if_pos hm]);have hbk:=iD ((Z3b T).1 hm);have hpl:=Z1z hbk.out.2.1 (fun b hb=>(hf.ok b hb).heads.ok);have hl32:T.length<=32:=hbk.out.1;rw[hm] at hmay ⊢;have hok:=iD hf.ok;replace h:=iD h;clear hm hf hc;go_enter func260,ntmps260;go_wp2_with fail;refine hmay.out.mono ?_;rintro e w1 ⟨rfl,hb1⟩;have h1:=iD (h.out.stayB hb1).ltB;replace hb1:=iD hb1;clear hmay h;go_wp2_with fail;have hbis:BIs w1.heap.size w1.heap.size [] (w1.alloc (lI #[Value.pointer none,lN none 0 0] 424)) :=
   .inl ⟨lM _,_,heap_alloc_new w1 _,World.ownsRow_nil _ _ _ _,by simp[l3]⟩
  go_loopw [17] (fun i wr=>∃ k:Nat,k<=T.length/\i=.int .i64 k/\BIs w1.heap.size w1.heap.size (Jv (T.take k)) wr/\Below w1.heap.size w1 wr) (fun i _=>T.length - (intOf i).toNat)
  case atStart=>exact⟨0,lR _,rfl,hbis,bL⟩
  case round =>
   clear hbis;obtain⟨k,hk,rfl,hB,hb⟩:=hrel;by_cases hlt:k<T.length
   ·have hw0:=h1.out.low hb;obtain⟨b,o,u,rfl,_,hbl,hU,c0,c1⟩:=hw0.br k hlt;have hbf:=hok.out T[k] (lH hlt);have hbo:=hbk.out.2.1 T[k] (lH hlt);have hpre:=Z1z (T:=T.take k) (fun x hx=>hbk.out.2.1 x (l6 hx)) (fun x hx=>(hok.out x (l6 hx)).heads.ok);have hline:=Z7q hbo hbf.heads.ok;have hsucc:Hid (Jv (T.take (k+1))=Jv (T.take k)++(T[k].name++K7 T[k].heads++[10])):=iD (by rw[O4 hlt,Zed];rfl);unfold Oo at hline;obtain⟨n,hn⟩:∃ n,n=T[k].name:=⟨_,rfl⟩;obtain⟨hs,hhs⟩:∃ hs,hs=T[k].heads:=⟨_,rfl⟩;obtain⟨pre,hpr⟩:∃ pre,pre=Jv (T.take k):=⟨_,rfl⟩;have hho:hOk hs:=by rw[hhs];exact hbf.heads.ok
    have hhl:hs.length<=4398046511104:=by rw[hhs];exact hbf.heads.len
    rw[<-hn,<-hhs] at hsucc hline;rw[<-hpr] at hsucc hpre hB;rw[<-hn] at c0;rw[<-hhs] at hU;clear hn hhs hpr hbf hbo;have hpl2:pre.length<=17440:=by rw[nH] at hpre;omega
    simp only[lC,lG,List.length_nil] at hline;obtain⟨UA,uc,rfl,huc,_⟩:=id hU;have hcells:=iD (Z00 c0 c1);obtain⟨hX1,hbx1⟩:=Z1y wr 205 Q3 [Z1 n,.slice UA hs.length uc];obtain⟨W1,hW1⟩:∃ W1,W1=(wr.alloc (.cells Q3.toArray 205)).setRow wr.heap.size [Z1 n,.slice UA hs.length uc].toArray:=⟨_,rfl⟩;rw[<-hW1] at hX1 hbx1;replace hW1:=iD hW1;have hone:Hid (∀ v ∈ [Z1 n,lN UA hs.length uc],v.oneCell'=true):=iD (by simp[Z1,nG]);have hB1:=Z3y hB hbx1;have hU1:=hU.low (hbx1.mono hb.size);have hbW:=hb.trans (hbx1.mono hb.size);have d0:W1.cell? ⟨wr.heap.size,0,none⟩=some (.string ⟨n.toArray⟩):=by rw[hX1.cell];rfl
    have i1:(0:Int)<=(k:Int):=by omega
    have i2:(k:Int)<(T.length:Int):=by omega
    have hgl:=hX1.lt;replace hho:=iD hho;have hws:=iD (Z3x w1.heap.size w1.heap.size pre n W1 hB1 (by omega) hbW.size);replace hX1:=iD hX1;replace hU1:=iD hU1;replace hbW:=iD hbW;replace hpre:=iD hpre;clear hw0 c0 c1 hU hB hB1 hb hbx1;go_wp2_with (first
     | (refine U8 205 (.tmp 19) rfl rfl b (o+k*2) rfl [Z1 n,.slice UA hs.length uc] hcells.out _ underlying205 rfl Q2 ?_;go_frame)
     | (refine Zd rfl 205 (.tmp 7) (.tmp 20) rfl wr.heap.size [Z1 n,.slice UA hs.length uc] rfl rfl 205 Q3 (Blk.new_at rfl) rfl Q2 hone.out ?_;rw[show (wr.alloc (lI #[l5 ⟨#[]⟩,lN none 0 0] 205)).setRow wr.heap.size [Z1 n,.slice UA hs.length uc].toArray=W1 from hW1.out.symm];go_frame))
    refine hws.out.mono ?_;rintro e W2 ⟨rfl,hB2,hb2,hk2⟩;have hX2:=hk2.blk _ _ _ hX1.out (by decide) (by decide);have hU2:=iD (hU1.out.low hb2);have hbW2:=iD (hbW.out.trans hb2);have d1:W2.cell? ⟨wr.heap.size,1,none⟩=some (.slice UA hs.length uc):=by rw[hX2.cell];rfl
    clear hX2 hb2 hk2 hX1 hU1 hbW hws hcells hone hW1 d0 hgl;generalize wr.heap.size=g0 at d1 ⊢;have hz:=(zero_of_info Z35).1;have hrest:hs.length*65+n.length<=545:=by rw[Z05 hho.out] at hline;omega
    go_wp2_with fail;go_loopw [27] (fun i wr=>∃ j:Nat,j<=hs.length/\i=.int .i64 j/\BIs w1.heap.size w1.heap.size (pre++n++K7 (hs.take j)) wr/\Below w1.heap.size w1 wr/\Below w1.heap.size W2 wr) (fun i _=>hs.length - (intOf i).toNat)
    case atStart=>exact⟨0,lR _,rfl,by simpa[K7] using hB2,hbW2.out,lD _ _⟩
    case round =>
     clear hB2 hbW2 d1;obtain⟨j,hj,rfl,hB3,hb3,hb3'⟩:=hrel;by_cases hjl:j<hs.length
     ·obtain⟨gd,od,rfl,hgdl,_,hcd⟩:=Ze.dig hU2.out hho.out j hjl;have hcd3:Hid (∀ i v,(hs[j].map B)[i]?=some v->wr.cell? ⟨gd,od+j*32+i,none⟩=some v):=iD (fun i v hv=>by
       rw[hb3'.cell (p:=⟨gd,_,none⟩) hgdl];exact hcd i v hv)
      have hdl:=hho.out hs[j] (lH hjl);have hsucc2:Hid (pre++n++K7 (hs.take (j+1))=pre++n++K7 (hs.take j)++(32 :: Jc hs[j])):=iD (by rw[O4 hjl,Zec,l7,l7,l7]);have hll:(pre++n++K7 (hs.take j)).length<=20000:=by
       rw[lC,lC,Z05 (fun x hx=>hho.out x (l6 hx)),nH];omega
      obtain⟨q,hq⟩:∃ q,q=pre++n++K7 (hs.take j):=⟨_,rfl⟩;rw[<-hq] at hll hsucc2 hB3;obtain⟨d,hd⟩:∃ d,d=hs[j]:=⟨_,rfl⟩;rw[<-hd] at hcd3 hdl hsucc2;clear hd hq hcd;have hsd:=iD (Zg hdl);have hzl:Hid (Z2.length=(d.map B).length):=iD (by rw[List.length_map,hdl];rfl);obtain⟨hX4,hbx4⟩:=Z1y wr 59 Z2 (d.map B);obtain⟨W4,hW4⟩:∃ W4,W4=(wr.alloc (.cells Z2.toArray 59)).setRow wr.heap.size (d.map B).toArray:=⟨_,rfl⟩;rw[<-hW4] at hX4 hbx4;replace hW4:=iD hW4;have hB4:=iD (Z3y hB3 hbx4);have hb4:=hb3.trans (hbx4.mono hb3.size);have hb4':=hb3'.trans (hbx4.mono hb3.size);have hhx:=iD (Z69 d hdl W4);have hhl:(32 :: Jc d).length=65:=by rw[lG,Gv,hdl]
      have hadd:=Zee [32] (Jc d);simp only[List.cons_append,List.nil_append] at hadd;replace hX4:=iD hX4;have i3:(0:Int)<=(j:Int):=by omega
      have i4:(j:Int)<(hs.length:Int):=by omega
      clear hB3 hb3 hb3' hbx4;obtain⟨hx,hhx2⟩:∃ hx,hx=Jc d:=⟨_,rfl⟩;rw[<-hhx2] at hhx hhl hadd hsucc2;clear hhx2;have hsz:(⟨hx.toArray⟩:ByteArray).size=64:=by rw[Jw];simpa using hhl
      go_wp2_with (first
       | (refine U8 59 (.tmp 29) rfl rfl gd (od+j*32) rfl (d.map B) hcd3.out _ underlying59 rfl hsd.out ?_;go_frame)
       | (refine Zd rfl 59 (.tmp 9) (.tmp 30) rfl wr.heap.size (d.map B) rfl rfl 59 Z2 (Blk.new_at rfl) hzl.out hsd.out (Y5 _) ?_;rw[show (wr.alloc (lI Z2.toArray 59)).setRow wr.heap.size (d.map B).toArray=W4 from hW4.out.symm];go_frame)
       | (refine Zy rfl 59 (.tmp 9) rfl wr.heap.size rfl 59 (d.map B) hX4.out _ underlying59 rfl hsd.out ?_;go_frame)
       | (go_at_call 191;refine hhx.out.mono ?_;rintro e W5 ⟨rfl,hb5⟩;replace hb5:=iD hb5))
      have hb5':=hb4.trans (hb5.out.mono hb4.size);have hB5:=Z3y hB4.out hb5.out;refine (Z3x w1.heap.size w1.heap.size q (32 :: hx) W5 hB5 (by omega) hb5'.size).mono ?_;rintro e W6 ⟨rfl,hB6,hb6,_⟩;rw[<-hsucc2.out] at hB6;replace hB6:=iD hB6;have hb7:=hb5'.trans hb6;have hb8:=(hb4'.trans (hb5.out.mono hb4.size)).trans hb6;clear hB4 hB5 hb6 hb5' hb5 hhx hb4 hb4' hX4 hW4;go_wp2;go_roundw
      case rel=>exact⟨j+1,by omega,by go_num,hB6.out,hb7,hb8⟩
      case measure=>simp[intOf];omega
     ·obtain rfl:j=hs.length:=by omega
      rw[lU] at hB3;have hlast:Hid (pre++n++K7 hs++[10]=Jv (T.take (k+1))):=iD (by rw[hsucc.out];simp);have hll:(pre++n++K7 hs).length<=20000:=by
       rw[lC,lC,Z05 hho.out];omega
      obtain⟨q,hq⟩:∃ q,q=pre++n++K7 hs:=⟨_,rfl⟩;rw[<-hq] at hll hlast hB3;clear hq;have hws:=iD (Z3x w1.heap.size w1.heap.size q [10] wr hB3 (by simp;omega) hb3.size);replace hb3:=iD hb3;clear hB3 hb3';go_wp2_with fail;refine hws.out.mono ?_;rintro e W6 ⟨rfl,hB6,hb6,_⟩;rw[hlast.out] at hB6;replace hB6:=iD hB6;have hb7:=hb3.out.trans hb6;clear hb6 hws;go_wp2;go_roundw
      case rel=>exact⟨k+1,by omega,by go_num,hB6.out,hb7⟩
      case measure=>simp[intOf];omega
   ·obtain rfl:k=T.length:=by omega
    rw[lU] at hB;have hstr:=iD (Tryz.Builder_String_any w1.heap.size w1.heap.size (Jv T) wr hB hb.size);replace hb:=iD hb;go_wp2_with fail;refine hstr.out.mono ?_;rintro e w2 ⟨rfl,hb2⟩;go_wp2;go_ret2;exact⟨Z1j (by rw[hpt.out];rfl) rfl,(hb1.out.trans ((hb.out.trans hb2).mono hb1.out.size))⟩
 ·have hpt:Hid (Ki T=[]):=iD (by unfold Ki;rw[if_neg hm]);obtain⟨x,hx⟩:∃ x,x=Xk T:=⟨_,rfl⟩;rw[<-hx] at hmay hm ⊢;clear hx h hf;have g1:(x != 0)=true:=by simpa using hm
  go_enter func260,ntmps260;go_wp2_with fail;refine hmay.out.mono ?_;rintro e w1 ⟨rfl,hb1⟩;replace hb1:=iD hb1;go_wp2;go_ret2;exact⟨Z1j (by rw[hpt.out];rfl) rfl,hb1.out⟩
end Go.Proofs.YtefjlobdifjogaaGreatDoor
end
end
section
namespace Go.Proofs.YtefjlobdifjogaaGreatDoor
open Go.RowKit
theorem Z20(x y:List Str)(v u:Value)(ok ok':Nat->Prop)(w:World)(h:Ze w ok v x)(h':Ze w ok' u y)(hx:HFit x)(hy:HFit y) :
    Calls lA 43 #[v,u] w fun e w'=>e=.returned (.bool (decide (x=y)))/\Below w.heap.size w w':=by
  obtain⟨A,c,rfl,hc,hr⟩:=h;obtain⟨A',c',rfl,hc',hr'⟩:=h';have hX:Hid (Ze w ok (.slice A x.length c) x):=iD ⟨A,c,rfl,hc,hr⟩;have hY:Hid (Ze w ok' (.slice A' y.length c') y):=iD ⟨A',c',rfl,hc',hr'⟩;have hlx:x.length<=4398046511104:=hx.len;have hly:y.length<=4398046511104:=hy.len;have hox:=iD hx.ok;have hoy:=iD hy.ok;clear hr hr' hc hc' hx hy;by_cases hl:x.length=y.length
  · have g0:((x.length:Int) != (y.length:Int))=false:=by simp[hl]
    replace hl:=iD hl;go_enter func43,ntmps43;go_wp2;go_loopw [13] (fun i wr=>∃ k:Nat,k<=x.length/\i=.int .i64 k/\Hid (x.take k=y.take k)/\Below w.heap.size w wr) (fun i _=>x.length - (intOf i).toNat)
    case atStart=>exact⟨0,lR _,rfl,iD rfl,lD _ _⟩
    case round =>
      obtain⟨k,hk,rfl,ht,hb⟩:=hrel;by_cases hlt:k<x.length
      · have hlt':k<y.length:=by rw[<-hl.out];exact hlt
        obtain⟨b1,o1,rfl,_,hb1,hc1⟩:=hX.out.dig hox.out k hlt;obtain⟨b2,o2,rfl,_,hb2,hc2⟩:=hY.out.dig hoy.out k hlt';have hxl:=hox.out x[k] (lH hlt);have hyl:=hoy.out y[k] (lH hlt');have hc1':Hid (∀ n:Nat,∀ j v,(x[k].map B)[j]?=some v->(wr.drewN n).cell? ⟨b1,o1+k*32+j,none⟩=some v):=iD (fun n j v hv=>by
          show wr.cell? _=_;rw[hb.cell (p:=⟨b1,_,none⟩) hb1];exact hc1 j v hv)
        have hc2':Hid (∀ n:Nat,∀ j v,(y[k].map B)[j]?=some v->(wr.drewN n).cell? ⟨b2,o2+k*32+j,none⟩=some v):=iD (fun n j v hv=>by
          show wr.cell? _=_;rw[hb.cell (p:=⟨b2,_,none⟩) hb2];exact hc2 j v hv)
        have hyes:Hid (x[k]=y[k]->x.take (k+1)=y.take (k+1)):=iD (fun e=>by rw[O4 hlt,O4 hlt',ht.out,e]);have hno:Hid (x[k] ≠ y[k]->x ≠ y):=iD (fun hne e=>hne (by subst e;rfl));obtain⟨p,hp⟩:∃ p,p=x[k]:=⟨_,rfl⟩;obtain⟨q,hq⟩:∃ q,q=y[k]:=⟨_,rfl⟩;rw[<-hp] at hxl hc1' hyes hno;rw[<-hq] at hyl hc2' hyes hno;clear hp hq hc1 hc2;have hs1:=iD (Zg hxl);have hs2:=iD (Zg hyl);replace hxl:=iD hxl;replace hyl:=iD hyl;have i1:(0:Int)<=(k:Int):=by omega
        have i2:(k:Int)<(x.length:Int):=by omega
        have i3:(k:Int)<(y.length:Int):=by omega
        obtain⟨t,htt⟩:∃ t,t=(!(p == q)):=⟨_,rfl⟩;replace htt:=iD htt;go_wp2;refine wp_region_quiet_lit (by kernel_rfl) (by kernel_rfl) ?_;repeat (first
          | (refine Z1h 59 (.tmp 18) rfl rfl b1 (o1+k*32) rfl (p.map B) (fun w hw=>?_) _ underlying59 rfl hs1.out ?_
             · obtain⟨n,rfl⟩:=hw
               exact hc1'.out n
             go_frame)
          | (refine Z1h 59 (.tmp 22) rfl rfl b2 (o2+k*32) rfl (q.map B) (fun w hw=>?_) _ underlying59 rfl hs2.out ?_
             · obtain⟨n,rfl⟩:=hw
               exact hc2'.out n
             go_frame)
          | (refine Zcz (.tmp 19) (.tmp 23) _ rfl rfl p q rfl rfl hxl.out hyl.out t htt.out.symm ?_;go_frame)
          | go_big_quiet_step (fail))
        refine wpQuiet_nil ?_;rintro _ ⟨nq,rfl⟩;cases t with
        | true =>
          have hne:Hid (x ≠ y):=iD (hno.out (fun e=>by have:=htt.out;rw[e] at this;simp at this));go_wp2;go_ret;exact⟨by rw[decide_eq_false hne.out];rfl,lW hb nq⟩
        | false =>
          have hnx:Hid (x.take (k+1)=y.take (k+1)):=iD (hyes.out (by simpa using htt.out));go_wp2;go_roundw
          case rel=>exact⟨k+1,by omega,by go_num,hnx,lW hb nq⟩
          case measure=>simp[intOf];omega
      · obtain rfl:k=x.length:=by omega
        have he:Hid (x=y):=iD (by
          have:=ht.out
          rwa [lU,List.take_of_length_le (by rw[hl.out];exact lM _)] at this)
        go_wp2;go_ret;exact⟨by rw[decide_eq_true he.out];rfl,hb⟩
  · have g0:((x.length:Int) != (y.length:Int))=true:=by simp;omega
    have hne:Hid (x ≠ y):=iD (fun e=>hl (by rw[e]));clear hl;go_enter func43,ntmps43;go_wp2;go_ret;exact⟨by rw[decide_eq_false hne.out];rfl,lD _ _⟩
end Go.Proofs.YtefjlobdifjogaaGreatDoor
end
section
namespace Go.Proofs.YtefjlobdifjogaaGreatDoor
open Go.RowKit
attribute [local go_sem] toL
end Go.Proofs.YtefjlobdifjogaaGreatDoor
end
section
namespace Go.Proofs.YtefjlobdifjogaaGreatDoor
open Go.RowKit
end Go.Proofs.YtefjlobdifjogaaGreatDoor
end
end
section
set_option maxRecDepth 100000
set_option maxHeartbeats 1000000
open Go.Lib renaming hid → iD
open Go.Proofs.Tryz
namespace Go.Proofs.YtefjlobdifjogaaGreatDoor
open Go.RowKit
theorem Z0c(w:World):(nI 242 (.int .i64 0) (.int .i64 0)).run lA w=.ok (.slice (some ⟨w.heap.size,0,none⟩) 0 0) (w.alloc (.cells #[] 4)):=by
 have h:=run_make_row' 242 4 (.bool false) 1 underlying242 (by kernel_rfl) rfl .i64 .i64 0 (by omega) (by omega) w;have e:madeCells #[nJ false] 0=#[]:=by kernel_rfl
 rw[e] at h;exact h
theorem O7(w:World):(nI 242 (.int .i64 1) (.int .i64 1)).run lA w=.ok (.slice (some ⟨w.heap.size,0,none⟩) 1 1) (w.alloc (.cells #[.bool false] 4)):=by
 have h:=run_make_row' 242 4 (.bool false) 1 underlying242 (by kernel_rfl) rfl .i64 .i64 1 (by omega) (by omega) w;have e:madeCells #[nJ false] 1=#[.bool false]:=by kernel_rfl
 rw[e] at h;exact h
theorem Z8d(w:World):Calls lA 160 #[Z0] w fun e w'=>∃ b,e=.returned (.tuple #[.agg #[Z0,.map (some b)],.int .i64 0,.int .i64 0])/\w.heap.size<=b/\Z8 w' b []/\Below w.heap.size w w':=by
 have hmm:=@run_makeMap lA;go_enter func160,ntmps160;go_wp2;go_rounds 1;refine Z1r rfl w.heap.size 235 [Z0,.map (some (w.heap.size+1))] _ rfl (((Blk.new_at (cs:=[Z0,.map (some (w.heap.size+1))]) rfl).alloc _).alloc _) underlying235 rfl (by kernel_rfl) rfl _ _ rfl rfl ⟨_,rfl,Nat.le_succ _,(Z8.new_at (by simp)).alloc _,(bL.alloc (by simp) _).alloc (by simp;omega) _⟩
theorem Zfo(w:World):Calls lA 231 #[Z0] w fun e w'=>∃ b,e=.returned (.tuple #[.map (some b),.int .i64 0,.int .i64 0])/\w.heap.size<=b/\Z8 w' b []/\Below w.heap.size w w':=by
 have hmm:=@Zdh lA 41 _ _ underlying41;go_enter func231,ntmps231;go_wp2;go_rounds 1;refine l0 (results_tmp3 rfl _ _ _) rfl ?_;exact⟨_,rfl,lM _,Z8.new _,bL⟩
theorem Zfp(A:Option Addr)(c:Nat)(f:Value)(w:World):Calls lA 276 #[.slice A 0 c,.int .i64 0,.int .i64 0,f] w fun e w'=>e=.returned (.tuple #[])/\Below w.heap.size w w':=by
 go_enter func276,ntmps276;go_wp2;go_rounds 1;refine bodyPost_end (v:=.tuple #[]) (l8 (by rfl) _ _ _) rfl ⟨rfl,lD _ _⟩
theorem Zfq(A:Option Addr)(c:Nat)(f n:Value)(w:World):Calls lA 224 #[.slice A 0 c,.int .i64 0,.int .i64 0,n,f] w fun e w'=>e=.returned (.tuple #[])/\Below w.heap.size w w':=by
 have hc:=iD (Zfp A c f w);go_enter func224,ntmps224;go_wp2_with fail;refine lJ 1 ?_;rw[lE];go_wp2_with fail;refine hc.out.mono ?_;rintro e W ⟨rfl,hb⟩;go_wp2_with fail;exact l0 (v:=.tuple #[]) (l8 (by rfl) _ _ _) rfl ⟨rfl,hb⟩
theorem Z8e(A:Option Addr)(c:Nat)(f:Value)(w:World):Calls lA 139 #[.slice A 0 c,f] w fun e w'=>e=.returned (.tuple #[])/\Below w.heap.size w w':=by
 have hc:=iD (fun n=>Zfq A c f n w);have hl:=iD (Tryz.bits_Len 0 w (by omega) (by omega));go_enter func139,ntmps139;go_wp2_with fail;refine hl.out.mono ?_;rintro e W ⟨rfl,rfl⟩;go_wp2_with fail;refine (hc.out _).mono ?_;rintro e W1 ⟨rfl,hb⟩;go_wp2_with fail;exact bodyPost_end (v:=.tuple #[]) (l8 (by rfl) _ _ _) rfl ⟨rfl,hb⟩
theorem Z8f(w:World):Calls lA 83 #[Z0] w fun e w'=>e=.returned (.tuple #[Z0,.int .i64 0])/\Below w.heap.size w w':=by
 have hc:=iD (Z8d w);go_enter func83,ntmps83;go_wp2_with fail;refine hc.out.mono ?_;rintro e W ⟨b,rfl,_,_,hb⟩;go_wp2_with fail;go_ret2;exact⟨rfl,hb.alloc hb.size _⟩
theorem Z8g(b:Nat)(w:World):Calls lA 166 #[.agg #[Z0,.map (some b)],Z0] w fun e w'=>∃ sb,e=.returned (.agg #[Z0,.map (some b),.slice (some ⟨sb,0,none⟩) 0 0])/\Below w.heap.size w w':=by
 have hmk:=Z0c;go_enter func166,ntmps166;go_wp2_with fail;go_region
 ·go_wp2_with fail;go_rounds 1;go_rounds 1;exact Qe rfl (w.heap.size+1) 253 [Z0,.map (some b),.slice (some ⟨w.heap.size+1+1,0,none⟩) 0 0] _ rfl (((Blk.new_at (cs:=[Z0,.map (some b),.slice (some ⟨w.heap.size+1+1,0,none⟩) 0 0]) (by simp)).alloc _).alloc _).drew underlying253 rfl (by kernel_rfl) rfl ⟨_,rfl,by go_grown⟩
 ·go_wp2_with fail;go_rounds 1;go_rounds 1;exact Qe rfl (w.heap.size+1) 253 [Z0,.map (some b),.slice (some ⟨w.heap.size+1+1+1,0,none⟩) 0 0] _ rfl (((Blk.new_at (cs:=[Z0,.map (some b),.slice (some ⟨w.heap.size+1+1+1,0,none⟩) 0 0]) (by simp)).alloc _).alloc _).drew underlying253 rfl (by kernel_rfl) rfl ⟨_,rfl,by go_grown⟩
theorem Zfr(w:World):Calls lA 86 #[Z0,Z0] w fun e w'=>∃ tb nb mb ab,e=.returned (.tuple #[.pointer (some ⟨tb,0,none⟩),.int .i64 0])/\TreeAt w' tb nb mb ab 0 [] [] Z0/\w.heap.size<=nb/\nb<mb/\mb<ab/\ab<tb/\Below w.heap.size w w':=by
 have hc:=iD (Z8d w);go_enter func86,ntmps86;go_wp2_with fail;refine hc.out.mono ?_;rintro e W ⟨b,rfl,_,_,hb⟩;replace hb:=iD hb;go_wp2_with fail;refine lJ 1 ?_;rw[lE];go_wp2_with fail;refine (Z8g b _).mono ?_;rintro e W1 ⟨sb,rfl,hb1⟩;have hb2:=iD ((hb.out.alloc hb.out.size (lI #[Z0,.map (some b)] 235)).trans (hb1.mono (by have:=hb.out.size;simp;omega)));go_wp2_with fail;refine (Z3s _).mono ?_;rintro e W2 ⟨tb,nb,mb,ab,rfl,hT,e1,e2,e3,e4,hb3⟩;replace hT:=iD hT;go_wp2_with fail;refine lJ 1 ?_;rw[lE];go_wp2_with fail;go_returns;refine⟨_,_,_,_,rfl,hT.out,?_,e2,e3,e4,?_⟩
 ·have h1:=hb2.out.size;simp at h1 e1;omega
 ·exact (hb2.out.alloc hb2.out.size _).trans (hb3.mono (by have:=hb2.out.size;simp;omega))
theorem Zfs(sb:Nat)(A:Option Addr)(c:Nat)(w:World)(h:w.cell? ⟨sb,0,none⟩=some (.slice A 0 c)):Calls lA 161 #[Z0,.slice (some ⟨sb,0,none⟩) 1 1] w fun e w'=>∃ k b s,e=.returned (.tuple #[.pointer (some ⟨k,0,none⟩),.int .i64 0])/\Blk w' k 273 [Z0,.map (some b),s]/\Below w.heap.size w w':=by
 have hc:=iD (Zfo w);have hmk:=Z0c;have hlt:=World.block_lt_of_cell? _ _ h;replace h:=iD h;go_enter func161,ntmps161;go_wp2_with fail;refine hc.out.mono ?_;rintro e W ⟨b,rfl,_,_,hb⟩;have c0:W.cell? ⟨sb,0,none⟩=some (.slice A 0 c):=by rw[hb.cell (p:=⟨sb,0,none⟩) hlt];exact h.out
 replace hb:=iD hb;go_wp2_with fail;refine lJ 2 ?_;rw[lE];go_wp2_with fail;refine lJ 1 ?_;rw[lE];go_wp2_with fail;rw[lE];go_wp2_with fail;go_returns;exact⟨_,_,_,rfl,Blk.new_at (cs:=[Z0,.map (some b),.slice (some ⟨W.heap.size,0,none⟩) 0 0]) (by simp),by have h1:=hb.out;have h2:=h1.size;go_grown⟩
theorem Zft(k:Nat)(m s A:Value)(w:World)(h:Blk w k 273 [Z0,m,s]):Calls lA 214 #[.pointer (some ⟨k,0,none⟩),A] w fun e w'=>e=.returned Z0/\Below w.heap.size w w':=by
 have c0:w.cell? ⟨k,0,none⟩=some Z0:=h.cell 0;have c0':(w.alloc (.cells #[] 4)).cell? ⟨k,0,none⟩=some Z0:=(h.alloc _).cell 0;have hmk:=Z0c;clear h;go_enter func214,ntmps214;go_wp2_with fail;refine lJ 1 ?_;rw[lE];go_wp2_with fail;refine (Z8e none 0 _ _).mono ?_;rintro e W ⟨rfl,hb⟩;go_wp2_with fail;go_returns;exact⟨rfl,bL.trans (hb.mono (by simp))⟩
theorem Zfu(A:Option Addr)(c:Nat)(w:World):Calls lA 128 #[Z0,.slice A 0 c] w fun e w'=>e=.returned (.tuple #[Z0,.int .i64 0])/\Below w.heap.size w w':=by
 have hmk:=Z0c;go_enter func128,ntmps128;go_wp2_with fail;refine (Zfs _ A c _ ((Blk.new_at (cs:=[.slice A 0 c]) rfl).cell 0)).mono ?_;rintro e W ⟨k,b,s,rfl,hk,hb⟩;have hb2:=iD (((lD _ _).alloc (lM w.heap.size) (lI #[.slice A 0 c] 22)).trans (hb.mono (by simp)));replace hk:=iD hk;clear hb;go_wp2_with fail;refine lJ 1 ?_;rw[lE];go_wp2_with fail;refine (Zft k _ _ _ _ (hk.out.alloc _)).mono ?_;rintro e W1 ⟨rfl,hb1⟩;go_wp2_with fail;go_returns;exact⟨rfl,(hb2.out.alloc hb2.out.size _).trans (hb1.mono (by have:=hb2.out.size;simp;omega))⟩
theorem Zfv(w:World):Calls lA 114 #[Z0,Z0,Z0] w fun e w'=>e=.returned (.tuple #[Z0,.int .i64 0])/\Below w.heap.size w w':=by
 go_enter func114,ntmps114;go_wp2_with fail;refine (Z8f _).mono ?_;rintro e W ⟨rfl,hb⟩;go_wp2_with fail;refine (Zfu none 0 _).mono ?_;rintro e W1 ⟨rfl,hb1⟩;go_wp2_with fail;go_returns;exact⟨rfl,hb.trans (hb1.mono hb.size)⟩
end Go.Proofs.YtefjlobdifjogaaGreatDoor
end
