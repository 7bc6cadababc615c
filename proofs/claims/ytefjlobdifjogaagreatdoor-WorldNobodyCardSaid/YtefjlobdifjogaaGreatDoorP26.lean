import Derived.ProofKit
import Derived.OpenShut
import Derived.Carry
import Derived.ChangeSame
import Derived.Deep.DeepHandedRow
import Derived.SizedLaws
import Derived.Deep.Slices
import Derived.Deep.Fields
import Derived.Test.YtefjlobdifjogaaGreatDoorP20
import Derived.Test.YtefjlobdifjogaaGreatDoorCards
import Derived.Test.YtefjlobdifjogaaGreatDoorTie
import Derived.Lib.LaidTab
import Derived.Stop.LaidErr
open Go.DataW renaming trod → lB, trod_int → lD, weights → lE, trod_string → lI
open Go.Lit renaming int → lC
open Go.Proofs.Tryz renaming prog → lA
open List renaming length_map → lF, getElem?_eq_getElem → lG, getElem?_map → lH
namespace Go.Proofs.YtefjlobdifjogaaGreatDoor
section
open Go.ChangeShapes Go.WideShapes Go.ChangeAt Go.RowKit
section
variable {H:Type} {enc:TypeId × Value->H} {P:Program}
theorem Zbd(hl:laidOutB P=true){W W':World}(hb:Below W.heap.size W W'):∀ (ts:List TypeId) (vs:List Value) (ds:List (DataW H)) (ps:List MemPlace),
  (∀ t ∈ ts,P.readableRec t=true/\t<P.types.size)->DataW.TrodAll enc P W 0 (fun _=>true) true ts vs ds ps->(∀ x ∈ ps,x.block<W.heap.size) ->
  DataW.TrodAll enc P W' 0 (fun b=>decide (b<W.heap.size)) true ts vs ds ps
 | [],vs,ds,ps,_,h,_=>by
  obtain⟨rfl,rfl,rfl⟩:=trodAll_nil h;exact trodAll_mk0
 | t :: ts,vs,ds,ps,hr,h,hlt=>by
  obtain⟨v,vs',d,ds',p,q,rfl,rfl,rfl,h0,h1⟩:=trodAll_cons h;refine trodAll_cons_mk (Below.trod hl (hr t (by simp)).1 (hr t (by simp)).2 h0 hb (fun x hx=>hlt x (by simp[hx]))) ?_;exact Zbd hl hb ts vs' ds' q (fun t ht=>hr t (by simp[ht])) h1 (fun x hx=>hlt x (by simp[hx]))
theorem law_post(hl:laidOutB P=true){f:Func}{s:ChangeSpec}{tb:TypeId}(hres:f.resultTypes=#[tb])(hb4:P.underlying tb=some .bool)(hvars:s.vars=[])
  (hpar:∀ t ∈ f.params.toList,P.readableRec t=true/\t<P.types.size) {W W':World} {args:Array Value} {ds gs:List (DataW H)} {before:List MemPlace}
  (hW:DataW.Whole enc P f.params.toList s.vars false W args.toList ds gs before) (hfn:s.fn H (ds++gs)={ results:=[.lit (.bool true)],args:=ds }) (hb:Below W.heap.size W W') :
  s.post enc P f false true false false W args (.bool true) W':=by
 have hW':=hW;obtain⟨p,q,hA,hV,rfl,_,_⟩:=hW;rw[hvars] at hV;obtain⟨rfl,rfl⟩:=trodVars_none hV;have hlt:∀ x ∈ p++[],x.block<W.heap.size:=fun x hx=>hW'.lt x hx;refine⟨ds,[],p++[],[],p,[],hW',?_,?_,?_,World.keptBut_mono (fun x hx=>⟨hx,.inr (by simpa using hx)⟩) (hb.frame (· ∈ p++[])),fun h=>by cases h⟩
 ·rw[hfn,hres];exact trodAll_mk1 (shut_bool hb4 _)
 ·rw[hfn];exact Zbd hl hb _ _ _ _ hpar hA (fun x hx=>hlt x (by simpa using hx))
 ·rw[hfn,hvars];rfl
end
end
section
open Go.ChangeShapes Go.WideShapes Go.ChangeAt Go.RowKit
section
variable {H:Type} {enc:TypeId × Value->H} {P:Program}
theorem byte_of_wf{n:Int}(h:(lC .u8 n).wf=true):∃ x:UInt8,n=bv x:=by
 simp only[Lit.wf,IntKind.min,IntKind.max,IntKind.signed,IntKind.bits,Bool.and_eq_true] at h;refine⟨UInt8.ofNat n.toNat,?_⟩;simp at h;unfold bv;simp;omega
theorem Zbe:∀ (cs:List Value),(∀ v ∈ cs,∃ x:UInt8,v=B x)->∃ l:List UInt8,cs=l.map B
 | [],_=>⟨[],rfl⟩
 | c :: cs,h=>by
  obtain⟨x,rfl⟩:=h c (by simp);obtain⟨l,rfl⟩:=Zbe cs (fun v hv=>h v (by simp[hv]));exact⟨x :: l,rfl⟩
end
end
section
open Go.Proofs.Tryz
open Go.ChangeShapes Go.WideShapes Go.ChangeAt Go.RowKit
section
variable {H:Type} {enc:TypeId × Value->H}
theorem Zmz{w:World}{a:Addr}{v:Value}(h:w.cell? a=some v):a.block<w.heap.size:=World.block_lt_of_cell? _ _ h
theorem Zn0{W:World}{base fuel:Nat}{held:Bool}{cs:List Value}{y:DataW H × List MemPlace}(h:lB enc lA W base (fun _=>true) held fuel 59 cs=some y)(hc:cs.length=32):∃ d:Str,d.length=32/\cs=d.map B:=by
 obtain⟨xs,m,_,hx,hlen,hn,hel⟩:=DataW.trod_array underlying59 h;have hce:lA.cellsOf 5=1:=by kernel_rfl
 obtain⟨l,hl2⟩:=Zbe cs (fun v hv=>by
  obtain⟨i,hi,rfl⟩:=List.getElem_of_mem hv;have h1:=hel i (by omega);rw[hce,Nat.mul_one] at h1;have h2:(cs.drop i).take 1=[cs[i]]:=by
   rw[List.drop_eq_getElem_cons hi];rfl
  rw[h2] at h1;have hxi:i<xs.length:=by omega
  rw[lG hxi] at h1;obtain⟨k,hk,_,hw⟩:=lD underlying5 h1;obtain⟨x,rfl⟩:=byte_of_wf hw;exact⟨x,by simpa using hk⟩)
 refine⟨l,?_,hl2⟩;have:=congrArg List.length hl2;rw[hc,lF] at this;exact this.symm
theorem Zbf:∀ {l:List Str},hOk l->∀ {j:Nat} {u:Value},(Zv l)[j]?=some u->∃ (k:Nat) (d:Str) (i:Nat),l[k]?=some d/\j=k*32+i/\(d.map B)[i]?=some u
 | [],_,j,u,h=>by simp[Zv] at h
 | d :: l,ho,j,u,h=>by
  rw[Z1i] at h;have hd:(d.map B).length=32:=by rw[lF];exact ho d (by simp)
  by_cases hj:j<32
  ·rw[List.getElem?_append_left (by omega)] at h;exact⟨0,d,j,rfl,by omega,h⟩
  ·rw[List.getElem?_append_right (by omega),hd] at h;obtain⟨k,d',i,h1,h2,h3⟩:=Zbf (l:=l) (fun x hx=>ho x (by simp[hx])) h;exact⟨k+1,d',i,by simpa using h1,by omega,h3⟩
theorem Zbg{W:World}{base fuel:Nat}{held:Bool}{v:Value}{y:DataW H × List MemPlace}(h:lB enc lA W base (fun _=>true) held fuel 22 [v]=some y)
  (hw:∀ n ∈ y.1.weights lA 22,n<=reachBytes):∃ l:List Str,Ze W (· < W.heap.size) v l/\HFit l:=by
 have hC:lA.cellsOf 59=32:=by kernel_rfl
 have hby:lA.bytesOf 59=32:=by kernel_rfl
 rcases Go.Deep.open_slice underlying22 h with ⟨hcs,hx⟩ | ⟨a,len,cap,m,n,D,Pl,hcs,hb,hl,hm,hmm,hx,hi⟩
 ·cases hcs
  exact⟨[],Ze.nil,by simp,fun d hd=>by cases hd⟩
 ·cases hcs
  subst hx;simp only[if_true] at hmm;subst hmm;simp only[lE,underlying22,hby] at hw;have hlen:len<=4398046511104:=by
   have:=hw _ (List.mem_cons_self ..);simp only[lF,List.length_range] at this;unfold reachBytes at this;omega
  have hall:∀ i,∃ d:Str,i<len->d.length=32/\∀ j u,(d.map B)[j]?=some u->W.cell? (a.add (i*32+j))=some u:=by
   intro i;by_cases him:i<len
   ·obtain⟨cs',hc,ht⟩:=hi i (by omega);rw[hC] at hc;obtain⟨_,hcl,hat⟩:=World.cells?_some hc;obtain⟨d,hd,rfl⟩:=Zn0 ht hcl;refine⟨d,fun _=>⟨hd,fun j u hu=>?_⟩⟩;have hj:j<32:=by have:=(List.getElem?_eq_some_iff.1 hu).1;simpa[hd] using this
    have:=hat j hj;rw[Go.Deep.add_add] at this;rw[this,hu]
   ·exact⟨[],fun h=>absurd h him⟩
  obtain⟨T,hT⟩:=Classical.axiomOfChoice hall;have hok:hOk ((List.range len).map T):=fun d hd=>by
   obtain⟨i,hi',rfl⟩:=List.mem_map.1 hd;exact (hT i (List.mem_range.1 hi')).1
  refine⟨(List.range len).map T,⟨some a,m,by simp,by simpa using hl,fun hn=>⟨a,rfl,?_,fun j u hu=>?_⟩⟩,by simpa using hlen,hok⟩
  ·have h0:0<len:=by
    rcases Nat.eq_zero_or_pos len with h0 | h0
    ·subst h0;simp[Zv] at hn
    ·exact h0
   have h1:=(hT 0 h0).1;have:=Zmz ((hT 0 h0).2 0 (B (T 0)[0]) (by rw[lH,lG (by omega)];rfl));simpa[Addr.add] using this
  ·obtain⟨k,d,i,h1,rfl,h3⟩:=Zbf hok hu;rw[lH] at h1;have hkn:k<len:=by
    rcases Nat.lt_or_ge k len with h2 | h2
    ·exact h2
    ·rw[List.getElem?_eq_none (by simpa using h2)] at h1;cases h1
   rw[List.getElem?_range hkn] at h1;simp only[Option.map_some,Option.some.injEq] at h1;subst h1;exact (hT k hkn).2 i u h3
end
end
section
set_option maxRecDepth 100000
open Go.Proofs.Tryz
open Go.ChangeShapes Go.WideShapes Go.ChangeAt Go.RowKit
theorem Ze.down{w w':World}{v:Value}{l:List Str}(h:Ze w (· < w.heap.size) v l)(hb:Below w.heap.size w w'):Ze w' (fun _=>True) v l:=h.stay (fun b _ hlt=>hb.block b hlt) (fun _ _ _=>trivial)
section
variable {H:Type} {enc:TypeId × Value->H}
structure MsgAt (W:World) (m:PMsg) (o n:Value):Prop where
 old:Ze W (· < W.heap.size) o m.old
 new:Ze W (· < W.heap.size) n m.new
 fo:HFit m.old
 fn:HFit m.new
 kind:(lC .i64 m.kind).wf=true
 ses:(lC .i64 m.ses).wf=true
 code:(lC .i64 m.code).wf=true
 name:m.name.length<=140737488355328
 pack:m.pack.length<=140737488355328
theorem open_msg{W:World}{r:Reach}{b0 base:Nat}{held:Bool}{v:Value}{d:DataW H}{p:List MemPlace}(hval:Value.okWide lA W r b0 25 v)(h:DataW.Trod enc lA W base (fun _=>true) held 25 v d p)
  (hw:∀ n ∈ d.weights lA 25,n<=reachBytes):∃ m o n,v=.agg (Zx m o n).toArray/\MsgAt W m o n:=by
 have hu:=underlying25;have hC:lA.cellsOf 25=7:=by kernel_rfl
 obtain⟨cs,rfl,hsz⟩:=okWide_struct hu hval;obtain⟨fuel,hf⟩:=h;have hv:(Value.agg cs).cells.toList=cs.toList:=by simp[Value.cells]
 rw[hv] at hf;obtain⟨l,hl⟩:∃ l,l=cs.toList:=⟨_,rfl⟩;have hcs:cs=l.toArray:=by rw[hl]
 rw[<-hl] at hf;obtain⟨xs,n,_,hx,hcl,hlen,hg⟩:=DataW.trod_struct hu hf;rw[hC] at hcl;have k3:lA.cellsOf 3=1:=by kernel_rfl
 have k9:lA.cellsOf 9=1:=by kernel_rfl
 have k44:lA.cellsOf 22=1:=by kernel_rfl
 have k23:lA.cellsOf 23=1:=by kernel_rfl
 clear hl
 match l,hcl,xs,hlen with
 | [c0,c1,c2,c3,c4,c5,c6],_,[y0,y1,y2,y3,y4,y5,y6],_ =>
  have g0:lB enc lA W base (fun _=>true) held n 3 [c0]=some y0:=by have:=hg 0 _ rfl;simpa[k3] using this
  have g1:lB enc lA W base (fun _=>true) held n 3 [c1]=some y1:=by have:=hg 1 _ rfl;simpa[k3] using this
  have g2:lB enc lA W base (fun _=>true) held n 9 [c2]=some y2:=by have:=hg 2 _ rfl;simpa[k9] using this
  have g3:lB enc lA W base (fun _=>true) held n 22 [c3]=some y3:=by have:=hg 3 _ rfl;simpa[k44] using this
  have g4:lB enc lA W base (fun _=>true) held n 22 [c4]=some y4:=by have:=hg 4 _ rfl;simpa[k44] using this
  have g5:lB enc lA W base (fun _=>true) held n 9 [c5]=some y5:=by have:=hg 5 _ rfl;simpa[k9] using this
  have g6:lB enc lA W base (fun _=>true) held n 23 [c6]=some y6:=by have:=hg 6 _ rfl;simpa[k23] using this
  obtain⟨i0,e0,_,w0⟩:=lD underlying3 g0;obtain⟨i1,e1,_,w1⟩:=lD underlying3 g1;obtain⟨s2,e2,z2,_⟩:=lI underlying9 g2;obtain⟨s5,e5,z5,_⟩:=lI underlying9 g5;obtain⟨i6,e6,_,w6⟩:=lD underlying23 g6;have hx':d=_:=congrArg Prod.fst hx;rw[hx'] at hw;simp only[List.map_cons,List.map_nil,lE,hu,DataW.weightsEach,List.mem_append] at hw;obtain⟨lo,ho,hfo⟩:=Zbg g3 (fun q hq=>hw q (by simp[hq]));obtain⟨ln,hn,hfn⟩:=Zbg g4 (fun q hq=>hw q (by simp[hq]));cases e0;cases e1;cases e2;cases e5;cases e6
  subst z2;subst z5;have l2:s2.data.toList.length<=reachBytes:=hw _ (by simp[lE]);have l5:s5.data.toList.length<=reachBytes:=hw _ (by simp[lE]);unfold reachBytes at l2 l5;exact⟨⟨i0,i1,s2.data.toList,lo,ln,s5.data.toList,i6⟩,c3,c4,by rw[hcs];simp[Zx],⟨ho,hn,hfo,hfn,w0,w1,w6,by show s2.data.toList.length<=_;omega,by show s5.data.toList.length<=_;omega⟩⟩
end
end
section
open Go.Proofs.Tryz
open Go.ChangeShapes Go.WideShapes Go.ChangeAt Go.RowKit
theorem own:ownKnob lA.godebug=none:=by kernel_rfl
theorem laidOut:laidOutB lA=true:=by kernel_rfl
def tab3:List Int:=[128,191,160,191,128,159,144,191,128,143,0,0,0,0,0,0,0,0,0,0,0,0,0,0,0,0,0,0,0,0,0,0]
noncomputable def laidWorld(os:Os):World :=
 { World.holding lA os ⟨#[],#[],[]⟩ with heap:=(((((World.holding lA os ⟨#[],#[],[]⟩).heap).modify 3 fun
   | .cells _ t frozen=>.cells (tab3.map (Value.int .u8)).toArray t frozen
   | o=>o).modify 0 fun
   | .cells _ t frozen=>.cells (Uj.map W).toArray t frozen
   | o=>o).modify 2 fun
   | .cells _ t frozen=>.cells (Go.Pinned.utf8FirstZ.map fun (n:Nat)=>Value.int .u8 n).toArray t frozen
   | o=>o) }
theorem bool_res:lA.underlying 4=some .bool:=underlying4
theorem Zbs:lA.globalNamed "recension/digest.keys" = some 0:=by kernel_rfl
theorem Zo0:(lA.globals[0]?).map (·.type)=some 324:=by kernel_rfl
theorem Zo1:lA.cellsOf 324=64:=by kernel_rfl
theorem Zo2:lA.cellsOf 217=1:=by kernel_rfl
def Zbt:List Int:=Uj.map wv
theorem sync_laid{W:World}(h:laidMetH lA Rows.syncSamesRow.laid W):Zm W:=by
 have ht:Lib.TabIs lA W "recension/digest.keys" .u32 Zbt :=
  Lib.tabIs_of_head (rest:=_) Zbs Zo0 underlying324 underlying217 Zo2 Zo1 (laidMet.tail h)
 intro i hi;have:=ht.cell Zbs i (by show i<64;exact hi);rw[this];have hl:i<Uj.length:=hi;simp[Zbt,hl]
end
end Go.Proofs.YtefjlobdifjogaaGreatDoor
