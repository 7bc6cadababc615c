import Derived.Test.YtefjlobdifjogaaGreatDoorP23
open Go renaming wpQuiet_nil → lA
open Go.Lib renaming hasPrefix → lX
open Go.Op renaming slice → lC
open Go.Proofs.Tryz renaming prog → lD
open Go.RowKit.Below renaming refl → lN
open Go.Value renaming oneCell' → lI, ownBlock → lS
open Go.World renaming setCell → lG, alloc → lK, setRow → lM, putObj_heap_other → lV
open Iff renaming rfl → lL
open List renaming map_cons → lH, map_nil → lJ, length_take → lO, length_drop → lP, length_map → lQ, length_append → lR, length_cons → lT, length_nil → lU, length → lW, drop_zero → lY
open Nat renaming le_refl → lB, le_trans → lE, lt_of_lt_of_le → lF
namespace Go.Proofs.YtefjlobdifjogaaGreatDoor
section
set_option maxRecDepth 100000
set_option maxHeartbeats 16000000
open Go.Lib renaming hid → iD
open Go.Proofs.Tryz
open Go.RowKit Go.Shelf
attribute [local go_sem] Oper.semAt_some
def Vf(bs:Str)(i:Nat):Str:=(bs.drop (i*32)).take 32
theorem Za4:∀ (k:Nat) (bs:Str),K8 k bs=(List.range k).map (Vf bs)
 | 0,_=>rfl
 | k+1,bs=>by
  rw[K8,Za4 k,List.range_succ_eq_map,lH,List.map_map]
  congr 1
  refine List.map_congr_left (fun i _=>?_);simp only[Vf,Function.comp,List.drop_drop]
  congr 2
  omega
theorem Zkb{P:Program}{ops:Array Oper}{rest:List Oper}{op:Oper}{a:Act}{C:World->Prop}{Q:Act->Prop}(ty:TypeId)(x:Operand)(ho:op.op=.load ty x)(hgd:op.guard=none)
  (g o:Nat) (hx:a.eval x=.pointer (some ⟨g,o,none⟩)) (part:List Value) (hg:∀ w,C w->∀ j v,part[j]?=some v->w.cell? ⟨g,o+j,none⟩=some v) (d:TypeDesc)
  (hu:P.underlying ty=some d) (hd:d.isRow=true) (hi:(P.info? ty).map (·.size)=some part.length)
  (h:wpQuiet P ops C Q rest (a.put op.dst (.agg part.toArray))):wpQuiet P ops C Q (op :: rest) a:=by
 refine Zc _ ho hgd _ (fun w hw=>?_) h;unfold execOp;simp only[ho,hx,Instr.loadAt,Instr.sureAddr,Sem.run_bind,Sem.run_pure,Result.andThen_ok,
  run_loadVar_mid w g o ty part d (fun j v hv=>by have:=hg w hw j v hv;exact this) hu hd hi]
theorem Zkc{w:World}{ok:Nat->Prop}{A:Option Addr}{bs:Str}{i k:Nat}(h:Rd w ok A (bs.map B))(hl:bs.length=k*32)(hi:i<k):∃ b o,cutA A (i*32+32) (i*32) 1=some ⟨b,o,none⟩/\ok b/\b<w.heap.size/\∀ j u,((Vf bs i).map B)[j]?=some u->w.cell? ⟨b,o+j,none⟩=some u:=by
 have h1:=(h.take (i*32+32)).cutA (k:=i*32) (cap:=i*32+32) (by rw[lO];omega);have e:((bs.map B).take (i*32+32)).drop (i*32)=(Vf bs i).map B:=by
  unfold Vf;rw[<-List.map_take,<-List.map_drop,List.drop_take,show i*32+32 - i*32=32 by omega]
 rw[e] at h1;exact h1.at (by simp only[Vf,lQ,lO,lP];omega)
theorem Zkd{bs:Str}{i k:Nat}(hl:bs.length=k*32)(hi:i<k):(Vf bs i).length=32:=by simp only[Vf,lO,lP];omega
structure DgI (w:World) (lb n0 g top:Nat) (A:Option Addr) (c:Nat) (s:Str) (st:Option Str) (A':Option Addr) (bs:Str) (pre:List Nat) (W:World):Prop where
 row:∃ V,Blk W lb 22 [V]/\W.ownsRow top 59 32 V pre.length (Zv (pre.map (Vf bs)))/\(pre=[]->V=Z0)
 rd:Rd W (fun i=>i ≠ g/\i<n0) A' (bs.map B)
 rdr:Jh W g A c s st
 tch:Touch [g] w W
 le:top<=W.heap.size
theorem Z2q{w w':World}{base:Nat}{e:TypeId}{k n:Nat}{v:Value}{xs:List Value}(h:w.ownsRow base e k v n xs)(hb:Below w.heap.size w w'):w'.ownsRow base e k v n xs:=Zj (L:=[]) h (Touch.ofBelow hb) (fun _ _ hm=>by cases hm)
theorem DgI.below{w:World}{lb n0 g top:Nat}{A:Option Addr}{c:Nat}{s:Str}{st:Option Str}{A':Option Addr}{bs:Str}{pre:List Nat}{W W':World}(h:DgI w lb n0 g top A c s st A' bs pre W)(hb:Below W.heap.size W W'):DgI w lb n0 g top A c s st A' bs pre W':=by
 obtain⟨V,h1,h2,h2n⟩:=h.row;exact⟨⟨V,h1.below hb h1.lt,Z2q h2 hb,h2n⟩,h.rd.stayB hb,h.rdr.below hb,h.tch.trans (Touch.ofBelow (L:=[]) hb) (fun _ hi=>by cases hi),lE h.le hb.size⟩
theorem DgI.put{w:World}{lb n0 g top l:Nat}{A:Option Addr}{c:Nat}{s:Str}{st:Option Str}{A':Option Addr}{bs:Str}{pre:List Nat}{W:World}{o:Obj}(h:DgI w lb n0 g top A c s st A' bs pre W)(hw:w.heap.size<=top)(hn:n0<=w.heap.size)(hg:g<w.heap.size)(hl:top<=l)(ho:W.heap[l]?=some o)(hm:J6 o=true)(o':Obj):DgI w lb n0 g top A c s st A' bs pre (W.putObj l o'):=by
 obtain⟨V,h1,h2,h2n⟩:=h.row;have hT:Touch [l] W (W.putObj l o'):=Touch.grown (L:=[l]) (grownBy_putObj' W l o') (fun r e=>by cases e;simp);refine⟨⟨V,h1.put ho hm o',Zj h2 hT (fun b hb hbm=>?_),h2n⟩,h.rd.stay (fun b hb _=>hT.block b (lF hb.2 (lE hn (lE hw h.le))) (by simp;omega)) (fun _ h _=>h),?_,h.tch.trans hT (fun i hi=>.inr (by simp at hi;omega)),lE h.le hT.size⟩
 ·obtain rfl:b=l:=by simpa using hbm
  rcases h2.2 with ⟨rfl,_⟩ | ⟨g',cap,cur,rfl,_,hg',_⟩
  ·cases hb
  ·have e:g'=b:=by simpa[lS] using hb
   subst e;rw[hg'] at ho
   injection ho with ho
   subst ho;cases hm
 ·have hgl:g ≠ l:=by omega
  have key:∀ cs,Blk W g 123 cs->Blk (W.putObj l o') g 123 cs:=fun cs hB=>hB.put ho hm o';cases st with
  | none=>obtain⟨k,er,h0,h1,hB⟩:=h.rdr;exact⟨k,er,h0,h1,key _ hB⟩
  | some r=>obtain⟨k,h0,h1,hB⟩:=h.rdr;exact⟨k,h0,h1,key _ hB⟩
theorem Zke{w w':World}{base:Nat}{e:TypeId}{k n:Nat}{v:Value}{xs:List Value}(h:w.ownsRow base e k v n xs)(hg:w.grownBy w' v.ownBlock):KeepM w w' :=
 ⟨fun i o ho hm=>(hg.block i (Qc ho) (fun hi=>by
  rcases h.2 with ⟨rfl,_⟩ | ⟨g',cap,cur,rfl,_,hg',_⟩
  ·cases hi
  ·have e:i=g':=by simpa[lS] using hi
   subst e;rw[hg'] at ho
   injection ho with ho
   subst ho;cases hm)).trans ho⟩
theorem Jh.heap{w w':World}{g:Nat}{A:Option Addr}{c:Nat}{s:Str}{st:Option Str}(h:Jh w g A c s st)(e:w'.heap[g]?=w.heap[g]?):Jh w' g A c s st:=by
 cases st with
 | none=>obtain⟨k,er,h0,h1,h⟩:=h;exact⟨k,er,h0,h1,e.trans h⟩
 | some r=>obtain⟨k,h0,h1,h⟩:=h;exact⟨k,h0,h1,e.trans h⟩
theorem Za5(s:Str)(A:Option Addr)(c g n0:Nat)(st:Option Str)(w:World)(hB:Jh w g A c s st)(hR:Src n0 g w A s)(hn0:n0<=w.heap.size)(hs:s.length<=1099511627776)(hc:s.length<=c) :
  Calls lD 63 #[.pointer (some ⟨g,0,none⟩)] w fun e w'=>∃ u,e=.returned u/\w'.ownsRow w.heap.size 59 32 u (K8 ((Y0 32 256 st).1.length / 32) (Y0 32 256 st).1).length (Zv (K8 ((Y0 32 256 st).1.length / 32) (Y0 32 256 st).1))/\(K8 ((Y0 32 256 st).1.length / 32) (Y0 32 256 st).1=[]->u=Z0)/\Jh w' g A c s (Y0 32 256 st).2/\Touch [g] w w':=by
 obtain⟨k,hk,hkl⟩:=Zhe (each:=32) (most:=256) st;have hgl:=hB.lt;have hbt:=fun W (hb:Below w.heap.size w W)=>Zhb s A c g n0 st W (hB.below hb) (hR.stay (fun b hb' _=>hb.block b (lF hb'.2 hn0)) (fun _ h _=>h)) (lE hn0 hb.size) hs hc;obtain⟨bs,hbs⟩:∃ bs,bs=(Y0 32 256 st).1:=⟨_,rfl⟩;obtain⟨st',hst⟩:∃ st',st'=(Y0 32 256 st).2:=⟨_,rfl⟩;rw[<-hbs,<-hst] at hbt;rw[<-hbs] at hkl;rw[<-hbs,<-hst,hkl,Nat.mul_div_cancel _ (by omega),Za4];replace hbt:=iD hbt;clear hbs hst hB hR;refine Z24 func63 rfl ?_;simp only[ntmps63,List.size_toArray,lT,lU,Nat.reduceAdd,Nat.reduceSub,Array.replicate_succ,Array.replicate_zero,List.push_toArray,List.append_toArray,List.nil_append,List.cons_append];go_upto_region 2 with fail;generalize hW1:lK w _=w1;have hX1:Blk w1 w.heap.size 22 [Z0]:=by rw[<-hW1];exact Blk.new_at (cs:=[Z0]) rfl
 have hb1:Below w.heap.size w w1:=by rw[<-hW1];exact bL
 clear hW1;replace hX1:=iD hX1;replace hb1:=iD hb1;go_wp2_with fail;refine (hbt.out w1 hb1.out).mono ?_;rintro e w2 ⟨A',c',rfl,hc',hrd2,hrr2,hT2⟩;have hX2:=hX1.out.touch hT2 (by simp;omega);have hT02:Touch [g] w w2:=(Touch.ofBelow (L:=[g]) hb1.out).trans hT2 (fun i hi=>.inl hi);clear hbt hX1 hb1 hT2;replace hX2:=iD hX2;replace hT02:=iD hT02;replace hrd2:=iD hrd2;replace hrr2:=iD hrr2;rw[hkl];rw[hkl] at hc';obtain⟨n,hn⟩:∃ n,n=k*32:=⟨_,rfl⟩;rw[<-hn] at hc' ⊢;replace hn:=iD hn;have hch:=iD (Zjk A' n c' w2);go_wp2_with fail;refine hch.out.mono ?_;rintro e w3 ⟨rfl,hs3,hn3,hb3⟩;have hX3:=hX2.out.below hb3 hX2.out.lt;have hT03:=hT02.out.trans (Touch.ofBelow (L:=[]) hb3) (fun _ hi=>by cases hi);have hrd3:=hrd2.out.stayB hb3;have hrr3:=hrr2.out.below hb3;have hY:=Zjn A' n k c' w2.heap.size (w2.heap.size+1) hn.out hc' hk w3 hs3 hn3;have hz3:=hT03.size;have hlb3:=hX3.lt;have hsb3:=hs3.lt;have hnb3:=hn3.lt;have hle2:=hT02.out.size;have hlb2:=hX2.out.lt;have hI3:DgI w w.heap.size n0 g w3.heap.size A c s st' A' bs [] w3:=⟨⟨Z0,hX3,⟨rfl,.inl ⟨rfl,rfl⟩⟩,fun _=>rfl⟩,hrd3,hrr3,hT03,lB _⟩;clear hch hX2 hT02 hrd2 hrr2 hs3 hn3 hX3 hT03 hrd3 hrr3 hb3;replace hI3:=iD hI3;replace hY:=iD hY;go_upto_region 3 with fail;obtain⟨act,hact⟩:∃ act:Value->Act,act=fun v=>{ tmps:=#[.pointer (some ⟨g,0,none⟩),undef,.slice none 0 0,.pointer (some ⟨w.heap.size,0,none⟩),v,.pointer (some ⟨g,0,none⟩),.slice A' n c',.func (.func 226) #[] #[.pointer (some ⟨w2.heap.size,0,none⟩),.pointer (some ⟨w2.heap.size+1,0,none⟩)],v,undef,undef,undef,undef,undef,undef,undef],defers:=[] }:=⟨_,rfl⟩;replace hact:=iD hact;have hpm:∀ (A:World) (l:Nat) (o o':Obj),w3.heap.size<=l->A.heap[l]?=some o->J6 o=true->Z0p w2.heap.size (w2.heap.size+1) A (A.putObj l o'):=fun A l o o' hl _ _=>⟨lV (by omega),lV (by omega)⟩;refine Z53 226 #[.pointer (some ⟨w2.heap.size,0,none⟩),.pointer (some ⟨w2.heap.size+1,0,none⟩)] (Z9q A') (List.range k) Z9r (Z0p w2.heap.size (w2.heap.size+1)) rfl (fun _ _=>by simp[go_sem]) (by rintro _ vs W rfl;rfl) hY.out (by rintro _ _ ⟨q,rfl⟩;exact⟨fun _ _ h _=>h⟩) (fun _ _ _ h1 h2=>⟨h2.1.trans h1.1,h2.2.trans h1.2⟩) hpm
  (fun pre W=>DgI w w.heap.size n0 g w3.heap.size A c s st' A' bs pre W) ?iq ?im ?ia
  (fun pre i a' W=>DgI w w.heap.size n0 g w3.heap.size A c s st' A' bs pre W/\a'=act (.slice (cutA A' (i*32+32) (i*32) 1) 32 32)) ?iam ?assign ?body ?done
 case iq=>rintro pre A B h ⟨q,rfl⟩;exact h.below ((Touch.drewN (L:=[]) q).below (lB _) (fun _ hi=>by cases hi))
 case im=>exact fun pre A' l o o' h hl ho hm=>h.put hz3 hn0 hgl hl ho hm o'
 case ia=>exact fun o1 o2 _ _=>(hI3.out.below ((lN _ _).alloc (lB _) o1)).below ((lN _ _).alloc (lB _) o2)
 case iam=>exact fun pre x a' A' l o o' ⟨h,e⟩ hl ho hm=>⟨h.put hz3 hn0 hgl hl ho hm o',e⟩
 case assign =>
  rintro l pre i r vs W K hI hpr rfl hK;have hfin:Hid (K (act (.slice (cutA A' (i*32+32) (i*32) 1) 32 32)) W):=iD (hK _ _ ⟨fun k o h _=>h⟩ ⟨rfl,rfl⟩ ⟨hI,rfl⟩);rw[hact.out] at hfin;clear hK hI
  gi_wp2
  exact hfin.out
 case body =>
  rintro l pre i r a' W ⟨hI,rfl⟩ hpr;have hik:i<k:=List.mem_range.1 (by rw[hpr];simp);have hpl:pre.length<k:=by
   have:=congrArg lW hpr;simp at this;omega
  rw[hact.out];obtain⟨b,o,he,hbo,hblt,hcell⟩:=Zkc hI.rd hkl hik;have hdl:=Zkd hkl hik;rw[he];obtain⟨d,hd⟩:∃ d,d=Vf bs i:=⟨_,rfl⟩;rw[<-hd] at hcell hdl;obtain⟨V,hX,hrow,hVn⟩:=hI.row;obtain⟨RA,rc,rfl,hrc,_⟩:=Za hrow;have hle:=hI.le;obtain⟨n1,hn1⟩:∃ n1,n1=pre.length:=⟨_,rfl⟩;rw[<-hn1] at hX hrow hpl hrc;replace hn1:=iD hn1;obtain⟨PS,hPS⟩:∃ PS:World->Prop,∀ y,PS y ↔ Below W.heap.size W y:=⟨_,fun _=>lL⟩;have hb0:Below W.heap.size W W.drew:=(lN _ _).drew;have s0:∀ y:Cls PS,y.1.cell? ⟨w.heap.size,0,none⟩=some (.slice RA n1 rc):=fun y=>(hX.below ((hPS _).1 y.2) hX.lt).cell 0;have s1:Hid (∀ w',(∃ y:Cls PS,w'=y.1)->∀ j v,(d.map B)[j]?=some v->w'.cell? ⟨b,o+j,none⟩=some v):=iD (by
   rintro _ ⟨y,rfl⟩ j v hv;rw[((hPS _).1 y.2).cell (p:=⟨b,_,none⟩) hblt];exact hcell j v hv)
  have s4:PS W.drew:=(hPS _).2 hb0;haveI : Nonempty (Cls PS):=⟨⟨_,s4⟩⟩;have hI':=hI;replace hI:=iD hI;replace hPS:=iD hPS;replace hX:=iD hX;replace hrow:=iD hrow;replace hb0:=iD hb0;replace hd:=iD hd;replace hpr:=iD hpr;have hsz:=iD (Zg hdl);clear hcell he hbo hVn hI'
  gi_wp2
  refine Z9o (fun w'=>∃ y:Cls PS,w'=y.1) [([0,1],2),([3],4)] [] 5 [6] (by kernel_rfl) (by kernel_rfl) (fun _ d _ _ _ h=>by cases d <;> exact h) (by rintro ⟨_,_,h⟩;exact h) (by rfl) ⟨⟨_,s4⟩,rfl⟩ ?_;simp only[Y4,Z7,lH,lJ,Zo,Zn];repeat (first | go_big_quiet_step (fail))
  refine lA ?_;intro K hK;refine J0 _ _ rfl _ (Ku _ rfl ⟨b,o,none⟩ 32 rfl) ?_;refine hK _ _ ⟨⟨_,s4⟩,rfl⟩ ?_;clear hK;repeat (first
   | (refine Zkb 59 (.tmp 11) rfl rfl b o rfl (d.map B) s1.out _ underlying59 rfl hsz.out ?_;go_frame)
   | go_big_quiet_step (fail))
  refine lA ?_;clear s0 s1 s4;intro K hK;refine J0 _ _ rfl _ (Jy 22 (.tmp 12) rfl _ _ rfl (Z0r d hdl _)) ?_;have hb1:Below W.heap.size W (W.drew.alloc (.cells (d.map B).toArray 59)):=hb0.out.alloc hb0.out.size _;have hN1:Blk (W.drew.alloc (.cells (d.map B).toArray 59)) W.heap.size 59 (d.map B):=Blk.new_at rfl;generalize lK W.drew _=y1 at hb1 hN1 ⊢;refine hK _ _ ⟨⟨_,(hPS.out _).2 hb1⟩,rfl⟩ ?_;clear hK;refine lA ?_;have hI1:=hI.out.below hb1;have hX1:=hX.out.below hb1 hX.out.lt;have hrow1:=Z2q hrow.out hb1;clear hX hrow hb0 hPS
  change wpList _ _ _ _ _ y1
  refine Yt _ rfl (.tmp 9) (.tmp 13) 22 rfl w3.heap.size 59 _ 32 32 underlying22 Uh (.slice RA n1 rc) n1 _ rfl hrow1 (fun _=>True) (some ⟨W.heap.size,0,none⟩) 1 1 (d.map B) rfl (by simp[hdl]) (Rd.of_blk (cs:=d.map B) (r:=[]) hN1 (by simp) trivial) (Y5 _) (by unfold maxLen;omega) (by omega) (lE hle hb1.size) ?_;intro V2 y2 hrow2 hg2 hv2;have hb2:Below w3.heap.size y1 y2:=Yo hrow1 hg2 (lE hle hb1.size);have hX2:=hX1.below hb2 hlb3;have hm2:=Zke hrow1 hg2;have hT2:Touch [g] w y2:=hI1.tch.trans (Touch.grown (L:=(Value.slice RA n1 rc).ownBlock.toList) hg2 (fun b e=>by simp[e])) (fun q hq=>.inr (by
   have:=(hrow1.lt q (by simpa using hq)).1;omega))
  have hz2:w3.heap.size<=y2.heap.size:=lE hle (lE hb1.size hb2.size);have f0:=hX2.frozen 0;have x0:y2.cell? ⟨w.heap.size,0,none⟩=some (.slice RA n1 rc):=hX2.cell 0;obtain⟨RB,rd,rfl,_,_⟩:=Za hrow2;have hX3:=hX2.set_ 0 (.slice RB (n1+1) rd);have hT3:Touch [w.heap.size] y2 (y2.setCell ⟨w.heap.size,0,none⟩ (.slice RB (n1+1) rd)):=Touch.setCell _ (by simp);have key:∀ q,q<w3.heap.size->q ≠ w.heap.size->(y2.setCell ⟨w.heap.size,0,none⟩ (.slice RB (n1+1) rd)).heap[q]?=y1.heap[q]?:=fun q hq hne=>(hT3.block q (by omega) (by simpa using hne)).trans (hb2.block q hq);have hbox:Z0p w2.heap.size (w2.heap.size+1) W (y2.setCell ⟨w.heap.size,0,none⟩ (.slice RB (n1+1) rd)):=⟨(key _ hsb3 (by omega)).trans (hb1.block _ (by omega)),(key _ hnb3 (by omega)).trans (hb1.block _ (by omega))⟩;have hkm:KeepM W (y2.setCell ⟨w.heap.size,0,none⟩ (.slice RB (n1+1) rd)):=((KeepM.below hb1).trans hm2).trans ⟨fun q x ho hm=>Qo hT3 ho (fun hq=>by
   obtain rfl:q=w.heap.size:=by simpa using hq
   exact Kk ho hm hX2)⟩
  have hrow3:=Zj hrow2 hT3 (fun q hq hm=>by
   have:=(hrow2.lt q hq).1;have : q=w.heap.size:=by simpa using hm
   omega)
  have hD3:DgI w w.heap.size n0 g w3.heap.size A c s st' A' bs (pre++[i]) (y2.setCell ⟨w.heap.size,0,none⟩ (.slice RB (n1+1) rd)):=by
   refine⟨⟨_,hX3,?_,fun h=>by simp at h⟩,hI1.rd.stay (fun q hq hlt=>key q (by have:=hq.2;omega) (by have:=hq.2;omega)) (fun _ h _=>h),hI1.rdr.heap (key g (by omega) (by omega)),hT2.trans hT3 (fun q hq=>.inr (by simp at hq;omega)),lE hz2 hT3.size⟩;rw[List.map_append,lH,lJ,Zd0,<-hd.out,lR,lT,lU,<-hn1.out];exact hrow3
  clear hX2 hX1 hrow1 hrow2 hrow3 hg2 hv2 hb2 hm2 hT2 key hT3 hX3 hI1 hN1 hb1;replace hbox:=iD hbox;replace hkm:=iD hkm;replace hD3:=iD hD3;go_frame;go_wp2_with fail;exact⟨hkm.out,hbox.out,hD3.out⟩
 case done =>
  rintro D W hDl hI hDe;obtain⟨V,hX,hrow,hVn⟩:=hI.row;have x0:W.cell? ⟨w.heap.size,0,none⟩=some V:=hX.cell 0;have hI3:=hI.put hz3 hn0 hgl hDl hDe rfl (.deferred none);have hT:=hI3.tch;have hr3:=hI3.rdr;obtain⟨V',hX',hrow',hVn'⟩:=hI3.row;have hVV:V'=V:=by
   have:=(hX.put hDe rfl (.deferred none)).cell 0;rw[hX'.cell 0] at this;simpa using this
  subst hVV;clear hI hX hrow hX' hI3 hVn;replace hT:=iD hT;replace hr3:=iD hr3;replace hrow':=iD hrow';replace hVn':=iD hVn';replace hDe:=iD hDe;dsimp only;go_wp2_with fail;refine Z25 hDe.out _ (results_tmp rfl _ _ _) ⟨_,rfl,?_,?_,hr3.out,hT.out⟩
  ·rw[lQ];exact J1 hz3 hrow'.out
  ·intro h;have : k=0:=by simpa using h
   subst this;exact hVn'.out rfl
end
section
set_option maxRecDepth 100000
set_option maxHeartbeats 16000000
open Go.Lib renaming hid → iD
open Go.Proofs.Tryz
open Go.RowKit
abbrev Zk:List Value:=[.int .i64 0,.int .i64 0,.string ⟨#[]⟩,.slice none 0 0,.slice none 0 0,.string ⟨#[]⟩,.int .i64 0]
theorem U1:∀ v ∈ Zk,v.oneCell'=true:=by simp[lI]
def Z0v(w:World)(s:Str)(e:Ending)(w':World):Prop :=
 Below w.heap.size w w'/\((∃ m o n,Xp s=some m/\e=.returned (.tuple #[.agg (Zx m o n).toArray,.int .i64 0])/\w'.ownsRow w.heap.size 59 32 o m.old.length (Zv m.old)/\w'.ownsRow w.heap.size 59 32 n m.new.length (Zv m.new)/\(m.old=[]->o=Z0)/\(m.new=[]->n=Z0)) ∨ (Xp s=none/\∃ er:Int,er ≠ 0/\e=.returned (.tuple #[.agg Zk.toArray,.int .i64 er])))
theorem rdrSz:(lD.info? 123).map (·.size)=some 3:=by kernel_rfl
theorem Zl1(st:Option Str):(Jz st).1.length<=131072:=by
 cases st with
 | none=>simp[Jz]
 | some r =>
  cases h:Yy 1 131072 r with
  | none=>simp[Jz,h]
  | some q =>
   obtain⟨t,r'⟩:=q;obtain⟨n,_,h2,h3,_⟩:=Z3i h;simp only[Jz,h];omega
theorem Zl2(s:Str):lX s [82,77,49]=decide (s.take 3=Kj):=by
 unfold lX;rw[Bool.eq_iff_iff,decide_eq_true_eq,List.isPrefixOf_iff_prefix,List.prefix_iff_eq_take];exact⟨fun h=>h.symm,fun h=>h.symm⟩
theorem Zl3{s:Str}(h:2097152<s.length):Xp s=none:=by simp[Xp,h]
theorem Zl4{s:Str}(h:¬ s.take 3=Kj):Xp s=none:=by
 unfold Xp;split <;> rfl
theorem Zl5{s:Str}(h:s.length<35):Xp s=none:=by
 unfold Xp;split
 ·rfl
 ·split
  ·rfl
  ·first | rfl | rw[if_pos h]
theorem Zl6{s:Str}(h:Y6 (s.take (s.length - 32)) ≠ s.drop (s.length - 32)):Xp s=none:=by
 unfold Xp;split
 ·rfl
 ·split
  ·rfl
  ·split
   ·rfl
   ·first | rfl | rw[if_pos h]
theorem Zl7{s:Str}(h1:¬ 2097152<s.length)(h2:s.take 3=Kj)(h3:¬ s.length<35)(h4:Y6 (s.take (s.length - 32))=s.drop (s.length - 32)):Xp s=Ox ((s.take (s.length - 32)).drop 3):=by
 unfold Xp;rw[if_neg h1,if_neg (by simpa using h2),if_neg h3,if_neg (by simpa using h4)]
theorem Kl{w w':World}{b k n:Nat}{e:TypeId}{v:Value}{xs:List Value}{L:List Nat}(h:w.ownsRow b e k v n xs)(ht:Touch L w w')(hL:∀ i ∈ L,i<b):w'.ownsRow b e k v n xs :=
 Zj h ht (fun g hg hm=>by have:=(h.lt g hg).1;have:=hL g hm;omega)
theorem Zak{w:World}{b:Nat}{v:Value}{l:List Str}(h:w.ownsRow b 59 32 v l.length (Zv l)):Ze w (b<=·) v l:=by
 rcases h.2 with ⟨rfl,h0⟩ | ⟨g,cap,cur,rfl,hb,hg,hc1,hc2,hc3,ht⟩
 ·obtain rfl:l=[]:=List.eq_nil_of_length_eq_zero h0;exact Ze.nil
 ·have hB:Blk w g 59 cur.toList:=hg;exact⟨_,cap,rfl,hc1,Rd.of_blk (r:=cur.toList.drop (l.length*32)) hB (by rw[lY,<-ht,List.take_append_drop]) hb⟩
theorem Z2t(s:Str)(hsl:s.length<=140737488355328)(w:World)(hK:Zm w):Calls lD 19 #[.string ⟨s.toArray⟩] w (Z0v w s):=by
 have hsz:(⟨s.toArray⟩:ByteArray).size=s.length:=Jw s;have hpx:∀ W,Calls lD 60 #[.string ⟨s.toArray⟩,.string ⟨#[82,77,49]⟩] W fun e w'=>e=.returned (.bool (decide (s.take 3=Kj)))/\w'=W:=fun W=>by
  rw[<-Zl2];exact Tryz.strings_HasPrefix ⟨s.toArray⟩ ⟨#[82,77,49]⟩ W
 have hKb:=iD (fun W (hb:Below w.heap.size w W)=>keys_below hK hb);replace hpx:=iD hpx;clear hK;go_enter func19,ntmps19;go_upto_region 1 with fail;generalize hW1:lK w _=w1;have hZ1:Blk w1 w.heap.size 25 Zk:=by rw[<-hW1];exact Blk.new_at rfl
 have hb1:Below w.heap.size w w1:=by rw[<-hW1];exact bL
 clear hW1;replace hZ1:=iD hZ1;replace hb1:=iD hb1;by_cases hlong:2097152<s.length
 ·have d1:decide ((2097152:Int)<(s.length:Int))=true:=decide_eq_true (by omega);have hno:=iD (Zl3 hlong);go_wp2_with (first | (refine Zd rfl 25 (.tmp 2) (.tmp 14) rfl w.heap.size Zk rfl rfl 25 Zk hZ1.out rfl (Xf Xr Z0 Z0) U1 ?_;go_frame) | fail);exact Kd rfl w.heap.size 25 Zk _ (.int .i64 3) rfl rfl (hZ1.out.setRow_same Zk) underlying25 rfl (Xf Xr Z0 Z0) rfl ⟨below_setRow hb1.out (lB _) _,.inr ⟨hno.out,3,by decide,rfl⟩⟩
 have d1:decide ((2097152:Int)<(s.length:Int))=false:=decide_eq_false (by omega);by_cases h3:s.take 3=Kj
 case neg =>
  have hno:=iD (Zl4 h3);have hpx':=hpx.out w1;rw[decide_eq_false h3] at hpx';replace hpx':=iD hpx';clear h3 hpx;go_wp2_with fail;refine hpx'.out.mono ?_;rintro e wz ⟨rfl,hwz⟩;rw[hwz];clear hwz wz hpx';go_wp2_with (first | (refine Zd rfl 25 (.tmp 2) (.tmp 19) rfl w.heap.size Zk rfl rfl 25 Zk hZ1.out rfl (Xf Xr Z0 Z0) U1 ?_;go_frame) | fail);exact Kd rfl w.heap.size 25 Zk _ (.int .i64 7) rfl rfl (hZ1.out.setRow_same Zk) underlying25 rfl (Xf Xr Z0 Z0) rfl ⟨below_setRow hb1.out (lB _) _,.inr ⟨hno.out,7,by decide,rfl⟩⟩
 have hpx':=hpx.out w1;rw[decide_eq_true h3] at hpx';replace hpx':=iD hpx';replace h3:=iD h3;clear hpx;by_cases h35:s.length<35
 ·have hno:=iD (Zl5 h35);have d3:decide ((s.length:Int) - 32<3)=true:=decide_eq_true (by omega);go_wp2_with fail;refine hpx'.out.mono ?_;rintro e wz ⟨rfl,hwz⟩;rw[hwz];clear hwz wz hpx';go_wp2_with (first | (refine Zd rfl 25 (.tmp 2) (.tmp 23) rfl w.heap.size Zk rfl rfl 25 Zk hZ1.out rfl (Xf Xr Z0 Z0) U1 ?_;go_frame) | fail);exact Kd rfl w.heap.size 25 Zk _ (.int .i64 8) rfl rfl (hZ1.out.setRow_same Zk) underlying25 rfl (Xf Xr Z0 Z0) rfl ⟨below_setRow hb1.out (lB _) _,.inr ⟨hno.out,8,by decide,rfl⟩⟩
 obtain⟨bo,hbo⟩:∃ bo,bo=s.take (s.length - 32):=⟨_,rfl⟩;obtain⟨dg,hdg⟩:∃ dg,dg=s.drop (s.length - 32):=⟨_,rfl⟩;have hbl:bo.length=s.length - 32:=by rw[hbo,lO];omega
 have hdgl:dg.length=32:=by rw[hdg,lP];omega
 obtain⟨hh,hhh⟩:∃ hh,hh=Y6 bo:=⟨_,rfl⟩;have hhl:hh.length=32:=by rw[hhh];exact J2 bo
 have hle1:bo.length<=s.length:=by omega
 have htk:Hid (s.take bo.length=bo):=iD (by rw[hbl,<-hbo]);have hdr:Hid (s.drop bo.length=dg):=iD (by rw[hbl,<-hdg]);have hlen:((s.length:Int) - 32)=(bo.length:Int):=by omega
 have hbl2:3<=bo.length/\bo.length<=2097120:=by omega
 have d3:decide ((bo.length:Int)<3)=false:=decide_eq_false (by omega);have hmain:=iD (fun h4:hh=dg=>Zl7 (s:=s) hlong h3.out h35 (by rw[<-hbo,<-hdg,<-hhh];exact h4));have hnos:=iD (fun h4:hh ≠ dg=>Zl6 (s:=s) (by rw[<-hbo,<-hdg,<-hhh];exact h4));rw[<-hbo] at hmain;have hsum:=iD (fun A c W (hb:Below w1.heap.size w1 W) (hr:Rd W (· < W.heap.size) A (bo.map B)/\bo.length<=c)=>Ql bo A c W hr.1 hr.2 (by omega) (hKb.out W (hb1.out.trans (hb.mono hb1.out.size))));rw[<-hhh] at hsum;replace hhh:=iD hhh;replace hbo:=iD hbo;replace hdg:=iD hdg;clear hlong h35 hbl h3;go_wp2_with fail;refine hpx'.out.mono ?_;rintro e wz ⟨rfl,hwz⟩;rw[hwz];clear hwz wz hpx';go_upto_region 8 with fail;go_cut [24] (fun v wx=>v=.bool (!(hh == dg))/\Below w1.heap.size w1 wx)
 case first =>
  obtain⟨PS,hPS⟩:∃ PS:World->Prop,∀ y,PS y ↔ Below w1.heap.size w1 y:=⟨_,fun _=>lL⟩;have hB0:Below w1.heap.size w1 w1.drew:=(lN _ _).drew;have s4:PS w1.drew:=(hPS _).2 hB0;haveI : Nonempty (Cls PS):=⟨⟨_,s4⟩⟩;replace hPS:=iD hPS;refine Z0t (fun w'=>∃ y:Cls PS,w'=y.1) (.two [0,1,2,5,6,7] 3 (.two [] 4 (.one [] 8 (.one [] 9 (.one [] 10 (.tail [11])))) 8 (.two [] 4 (.one [] 9 (.one [] 10 (.tail [11]))) 9 (.two [] 4 (.one [] 10 (.tail [11])) 10 (.one [] 4 (.tail [11]))))) 8 (.two [] 3 (.two [] 4 (.one [] 9 (.one [] 10 (.tail [11]))) 9 (.two [] 4 (.one [] 10 (.tail [11])) 10 (.one [] 4 (.tail [11])))) 9 (.two [] 3 (.two [] 4 (.one [] 10 (.tail [11])) 10 (.one [] 4 (.tail [11]))) 10 (.one [] 3 (.one [] 4 (.tail [11])))))) 12 [] (by kernel_rfl) (by kernel_rfl) (fun _ d _ _ _ h=>by cases d <;> exact h) ⟨⟨_,s4⟩,rfl⟩ ?_;simp only[Vg,Ur,Z7,lH,lJ,Zo,Zn];repeat (first | (refine Zc (lC 9 (.tmp 25) none (some (.tmp 26)) none) rfl rfl (.string ⟨bo.toArray⟩) (fun w' _=>Xv w' rfl s bo bo.length rfl rfl hle1 htk.out) ?_;go_frame) | (refine Zc (lC 9 (.tmp 30) (some (.tmp 31)) none none) rfl rfl (.string ⟨dg.toArray⟩) (fun w' _=>Jb w' rfl s dg bo.length rfl rfl hle1 hdr.out) ?_;go_frame) | (refine Zc (.binOp .neq 59 (.tmp 29) (.tmp 35) 59) rfl rfl (.bool (!(hh == dg))) (fun w' _=>Xx w' rfl hh dg rfl rfl hhl hdgl) ?_;go_frame) | go_big_quiet_step (fail))
  refine lA ?_;refine⟨?_,?_⟩
  ·skip
   intro K hK;refine Js _ rfl (.tmp 27) rfl bo rfl ?_;intro y1 c1 hb1 hlt1 hc1 hr1;have hB1:Below w1.heap.size w1 y1:=hB0.trans (hb1.mono hB0.size);refine hK _ _ ⟨⟨_,(hPS.out _).2 hB1⟩,rfl⟩ ?_;clear hK;refine lA ?_;refine⟨?_,?_⟩
   ·skip
    intro K hK;go_simp;refine (hsum.out _ _ _ hB1 ⟨hr1.weak (fun _ h _=>h),hc1⟩).mono ?_;rintro e y2 ⟨rfl,hb2⟩;have hB2:Below w1.heap.size w1 y2:=hB1.trans (hb2.mono hB1.size);refine hK _ _ ⟨⟨_,(hPS.out _).2 hB2⟩,rfl⟩ ?_;clear hK;refine lA ?_;intro K hK;refine Js _ rfl (.tmp 32) rfl dg rfl ?_;intro y3 c3 hb3 hlt3 hc3 hr3;rw[hdgl];have hB3:Below w1.heap.size w1 y3:=hB2.trans (hb3.mono hB2.size);refine hK _ _ ⟨⟨_,(hPS.out _).2 hB3⟩,rfl⟩ ?_;clear hK;refine lA ?_;intro K hK;refine J0 _ _ rfl _ (Ku _ rfl ⟨y2.heap.size,0,none⟩ _ rfl) ?_;refine hK _ _ ⟨⟨_,(hPS.out _).2 hB3⟩,rfl⟩ ?_;clear hK;refine lA ?_;intro K hK;refine Ji _ rfl 59 (.tmp 34) rfl y2.heap.size rfl dg hr3 hdgl rfl ?_;refine hK _ _ ⟨⟨_,(hPS.out _).2 hB3⟩,rfl⟩ ?_;clear hK;repeat (first | (refine Zc (lC 9 (.tmp 25) none (some (.tmp 26)) none) rfl rfl (.string ⟨bo.toArray⟩) (fun w' _=>Xv w' rfl s bo bo.length rfl rfl hle1 htk.out) ?_;go_frame) | (refine Zc (lC 9 (.tmp 30) (some (.tmp 31)) none none) rfl rfl (.string ⟨dg.toArray⟩) (fun w' _=>Jb w' rfl s dg bo.length rfl rfl hle1 hdr.out) ?_;go_frame) | (refine Zc (.binOp .neq 59 (.tmp 29) (.tmp 35) 59) rfl rfl (.bool (!(hh == dg))) (fun w' _=>Xx w' rfl hh dg rfl rfl hhl hdgl) ?_;go_frame) | go_big_quiet_step (fail))
    refine lA ?_
    change wpList _ _ _ _ _ y3
    go_wp2_with fail;go_meet;exact⟨rfl,hB3⟩
   ·skip
    intro K hK;refine Js _ rfl (.tmp 32) rfl dg rfl ?_;intro y6 c6 hb6 hlt6 hc6 hr6;rw[hdgl];have hB6:Below w1.heap.size w1 y6:=hB1.trans (hb6.mono hB1.size);have hrA6:=hr1.stayB hb6;refine hK _ _ ⟨⟨_,(hPS.out _).2 hB6⟩,rfl⟩ ?_;clear hK;refine lA ?_;refine⟨?_,?_⟩
    ·skip
     intro K hK;go_simp;refine (hsum.out _ _ _ hB6 ⟨hrA6.weak (fun _ h _=>h),hc1⟩).mono ?_;rintro e y7 ⟨rfl,hb7⟩;have hB7:Below w1.heap.size w1 y7:=hB6.trans (hb7.mono hB6.size);have hrB7:=hr6.stayB hb7;refine hK _ _ ⟨⟨_,(hPS.out _).2 hB7⟩,rfl⟩ ?_;clear hK;refine lA ?_;intro K hK;refine J0 _ _ rfl _ (Ku _ rfl ⟨y1.heap.size,0,none⟩ _ rfl) ?_;refine hK _ _ ⟨⟨_,(hPS.out _).2 hB7⟩,rfl⟩ ?_;clear hK;refine lA ?_;intro K hK;refine Ji _ rfl 59 (.tmp 34) rfl y1.heap.size rfl dg hrB7 hdgl rfl ?_;refine hK _ _ ⟨⟨_,(hPS.out _).2 hB7⟩,rfl⟩ ?_;clear hK;repeat (first | (refine Zc (lC 9 (.tmp 25) none (some (.tmp 26)) none) rfl rfl (.string ⟨bo.toArray⟩) (fun w' _=>Xv w' rfl s bo bo.length rfl rfl hle1 htk.out) ?_;go_frame) | (refine Zc (lC 9 (.tmp 30) (some (.tmp 31)) none none) rfl rfl (.string ⟨dg.toArray⟩) (fun w' _=>Jb w' rfl s dg bo.length rfl rfl hle1 hdr.out) ?_;go_frame) | (refine Zc (.binOp .neq 59 (.tmp 29) (.tmp 35) 59) rfl rfl (.bool (!(hh == dg))) (fun w' _=>Xx w' rfl hh dg rfl rfl hhl hdgl) ?_;go_frame) | go_big_quiet_step (fail))
     refine lA ?_
     change wpList _ _ _ _ _ y7
     go_wp2_with fail;go_meet;exact⟨rfl,hB7⟩
    ·skip
     intro K hK;refine J0 _ _ rfl _ (Ku _ rfl ⟨y1.heap.size,0,none⟩ _ rfl) ?_;refine hK _ _ ⟨⟨_,(hPS.out _).2 hB6⟩,rfl⟩ ?_;clear hK;refine lA ?_;refine⟨?_,?_⟩
     ·skip
      intro K hK;go_simp;refine (hsum.out _ _ _ hB6 ⟨hrA6.weak (fun _ h _=>h),hc1⟩).mono ?_;rintro e y11 ⟨rfl,hb11⟩;have hB11:Below w1.heap.size w1 y11:=hB6.trans (hb11.mono hB6.size);have hrB11:=hr6.stayB hb11;refine hK _ _ ⟨⟨_,(hPS.out _).2 hB11⟩,rfl⟩ ?_;clear hK;refine lA ?_;intro K hK;refine Ji _ rfl 59 (.tmp 34) rfl y1.heap.size rfl dg hrB11 hdgl rfl ?_;refine hK _ _ ⟨⟨_,(hPS.out _).2 hB11⟩,rfl⟩ ?_;clear hK;repeat (first | (refine Zc (lC 9 (.tmp 25) none (some (.tmp 26)) none) rfl rfl (.string ⟨bo.toArray⟩) (fun w' _=>Xv w' rfl s bo bo.length rfl rfl hle1 htk.out) ?_;go_frame) | (refine Zc (lC 9 (.tmp 30) (some (.tmp 31)) none none) rfl rfl (.string ⟨dg.toArray⟩) (fun w' _=>Jb w' rfl s dg bo.length rfl rfl hle1 hdr.out) ?_;go_frame) | (refine Zc (.binOp .neq 59 (.tmp 29) (.tmp 35) 59) rfl rfl (.bool (!(hh == dg))) (fun w' _=>Xx w' rfl hh dg rfl rfl hhl hdgl) ?_;go_frame) | go_big_quiet_step (fail))
      refine lA ?_
      change wpList _ _ _ _ _ y11
      go_wp2_with fail;go_meet;exact⟨rfl,hB11⟩
     ·skip
      intro K hK;refine Ji _ rfl 59 (.tmp 34) rfl y1.heap.size rfl dg hr6 hdgl rfl ?_;refine hK _ _ ⟨⟨_,(hPS.out _).2 hB6⟩,rfl⟩ ?_;clear hK;refine lA ?_;intro K hK;go_simp;refine (hsum.out _ _ _ hB6 ⟨hrA6.weak (fun _ h _=>h),hc1⟩).mono ?_;rintro e y14 ⟨rfl,hb14⟩;have hB14:Below w1.heap.size w1 y14:=hB6.trans (hb14.mono hB6.size);have hrB14:=hr6.stayB hb14;refine hK _ _ ⟨⟨_,(hPS.out _).2 hB14⟩,rfl⟩ ?_;clear hK;repeat (first | (refine Zc (lC 9 (.tmp 25) none (some (.tmp 26)) none) rfl rfl (.string ⟨bo.toArray⟩) (fun w' _=>Xv w' rfl s bo bo.length rfl rfl hle1 htk.out) ?_;go_frame) | (refine Zc (lC 9 (.tmp 30) (some (.tmp 31)) none none) rfl rfl (.string ⟨dg.toArray⟩) (fun w' _=>Jb w' rfl s dg bo.length rfl rfl hle1 hdr.out) ?_;go_frame) | (refine Zc (.binOp .neq 59 (.tmp 29) (.tmp 35) 59) rfl rfl (.bool (!(hh == dg))) (fun w' _=>Xx w' rfl hh dg rfl rfl hhl hdgl) ?_;go_frame) | go_big_quiet_step (fail))
      refine lA ?_
      change wpList _ _ _ _ _ y14
      go_wp2_with fail;go_meet;exact⟨rfl,hB14⟩
  ·skip
   intro K hK;refine Js _ rfl (.tmp 32) rfl dg rfl ?_;intro y15 c15 hb15 hlt15 hc15 hr15;rw[hdgl];have hB15:Below w1.heap.size w1 y15:=hB0.trans (hb15.mono hB0.size);refine hK _ _ ⟨⟨_,(hPS.out _).2 hB15⟩,rfl⟩ ?_;clear hK;refine lA ?_;refine⟨?_,?_⟩
   ·skip
    intro K hK;refine Js _ rfl (.tmp 27) rfl bo rfl ?_;intro y16 c16 hb16 hlt16 hc16 hr16;have hB16:Below w1.heap.size w1 y16:=hB15.trans (hb16.mono hB15.size);have hrB16:=hr15.stayB hb16;refine hK _ _ ⟨⟨_,(hPS.out _).2 hB16⟩,rfl⟩ ?_;clear hK;refine lA ?_;refine⟨?_,?_⟩
    ·skip
     intro K hK;go_simp;refine (hsum.out _ _ _ hB16 ⟨hr16.weak (fun _ h _=>h),hc16⟩).mono ?_;rintro e y17 ⟨rfl,hb17⟩;have hB17:Below w1.heap.size w1 y17:=hB16.trans (hb17.mono hB16.size);have hrB17:=hrB16.stayB hb17;refine hK _ _ ⟨⟨_,(hPS.out _).2 hB17⟩,rfl⟩ ?_;clear hK;refine lA ?_;intro K hK;refine J0 _ _ rfl _ (Ku _ rfl ⟨w1.drew.heap.size,0,none⟩ _ rfl) ?_;refine hK _ _ ⟨⟨_,(hPS.out _).2 hB17⟩,rfl⟩ ?_;clear hK;refine lA ?_;intro K hK;refine Ji _ rfl 59 (.tmp 34) rfl w1.drew.heap.size rfl dg hrB17 hdgl rfl ?_;refine hK _ _ ⟨⟨_,(hPS.out _).2 hB17⟩,rfl⟩ ?_;clear hK;repeat (first | (refine Zc (lC 9 (.tmp 25) none (some (.tmp 26)) none) rfl rfl (.string ⟨bo.toArray⟩) (fun w' _=>Xv w' rfl s bo bo.length rfl rfl hle1 htk.out) ?_;go_frame) | (refine Zc (lC 9 (.tmp 30) (some (.tmp 31)) none none) rfl rfl (.string ⟨dg.toArray⟩) (fun w' _=>Jb w' rfl s dg bo.length rfl rfl hle1 hdr.out) ?_;go_frame) | (refine Zc (.binOp .neq 59 (.tmp 29) (.tmp 35) 59) rfl rfl (.bool (!(hh == dg))) (fun w' _=>Xx w' rfl hh dg rfl rfl hhl hdgl) ?_;go_frame) | go_big_quiet_step (fail))
     refine lA ?_
     change wpList _ _ _ _ _ y17
     go_wp2_with fail;go_meet;exact⟨rfl,hB17⟩
    ·skip
     intro K hK;refine J0 _ _ rfl _ (Ku _ rfl ⟨w1.drew.heap.size,0,none⟩ _ rfl) ?_;refine hK _ _ ⟨⟨_,(hPS.out _).2 hB16⟩,rfl⟩ ?_;clear hK;refine lA ?_;refine⟨?_,?_⟩
     ·skip
      intro K hK;go_simp;refine (hsum.out _ _ _ hB16 ⟨hr16.weak (fun _ h _=>h),hc16⟩).mono ?_;rintro e y21 ⟨rfl,hb21⟩;have hB21:Below w1.heap.size w1 y21:=hB16.trans (hb21.mono hB16.size);have hrB21:=hrB16.stayB hb21;refine hK _ _ ⟨⟨_,(hPS.out _).2 hB21⟩,rfl⟩ ?_;clear hK;refine lA ?_;intro K hK;refine Ji _ rfl 59 (.tmp 34) rfl w1.drew.heap.size rfl dg hrB21 hdgl rfl ?_;refine hK _ _ ⟨⟨_,(hPS.out _).2 hB21⟩,rfl⟩ ?_;clear hK;repeat (first | (refine Zc (lC 9 (.tmp 25) none (some (.tmp 26)) none) rfl rfl (.string ⟨bo.toArray⟩) (fun w' _=>Xv w' rfl s bo bo.length rfl rfl hle1 htk.out) ?_;go_frame) | (refine Zc (lC 9 (.tmp 30) (some (.tmp 31)) none none) rfl rfl (.string ⟨dg.toArray⟩) (fun w' _=>Jb w' rfl s dg bo.length rfl rfl hle1 hdr.out) ?_;go_frame) | (refine Zc (.binOp .neq 59 (.tmp 29) (.tmp 35) 59) rfl rfl (.bool (!(hh == dg))) (fun w' _=>Xx w' rfl hh dg rfl rfl hhl hdgl) ?_;go_frame) | go_big_quiet_step (fail))
      refine lA ?_
      change wpList _ _ _ _ _ y21
      go_wp2_with fail;go_meet;exact⟨rfl,hB21⟩
     ·skip
      intro K hK;refine Ji _ rfl 59 (.tmp 34) rfl w1.drew.heap.size rfl dg hrB16 hdgl rfl ?_;refine hK _ _ ⟨⟨_,(hPS.out _).2 hB16⟩,rfl⟩ ?_;clear hK;refine lA ?_;intro K hK;go_simp;refine (hsum.out _ _ _ hB16 ⟨hr16.weak (fun _ h _=>h),hc16⟩).mono ?_;rintro e y24 ⟨rfl,hb24⟩;have hB24:Below w1.heap.size w1 y24:=hB16.trans (hb24.mono hB16.size);have hrB24:=hrB16.stayB hb24;refine hK _ _ ⟨⟨_,(hPS.out _).2 hB24⟩,rfl⟩ ?_;clear hK;repeat (first | (refine Zc (lC 9 (.tmp 25) none (some (.tmp 26)) none) rfl rfl (.string ⟨bo.toArray⟩) (fun w' _=>Xv w' rfl s bo bo.length rfl rfl hle1 htk.out) ?_;go_frame) | (refine Zc (lC 9 (.tmp 30) (some (.tmp 31)) none none) rfl rfl (.string ⟨dg.toArray⟩) (fun w' _=>Jb w' rfl s dg bo.length rfl rfl hle1 hdr.out) ?_;go_frame) | (refine Zc (.binOp .neq 59 (.tmp 29) (.tmp 35) 59) rfl rfl (.bool (!(hh == dg))) (fun w' _=>Xx w' rfl hh dg rfl rfl hhl hdgl) ?_;go_frame) | go_big_quiet_step (fail))
      refine lA ?_
      change wpList _ _ _ _ _ y24
      go_wp2_with fail;go_meet;exact⟨rfl,hB24⟩
   ·skip
    intro K hK;refine J0 _ _ rfl _ (Ku _ rfl ⟨w1.drew.heap.size,0,none⟩ _ rfl) ?_;refine hK _ _ ⟨⟨_,(hPS.out _).2 hB15⟩,rfl⟩ ?_;clear hK;refine lA ?_;refine⟨?_,?_⟩
    ·skip
     intro K hK;refine Js _ rfl (.tmp 27) rfl bo rfl ?_;intro y26 c26 hb26 hlt26 hc26 hr26;have hB26:Below w1.heap.size w1 y26:=hB15.trans (hb26.mono hB15.size);have hrB26:=hr15.stayB hb26;refine hK _ _ ⟨⟨_,(hPS.out _).2 hB26⟩,rfl⟩ ?_;clear hK;refine lA ?_;refine⟨?_,?_⟩
     ·skip
      intro K hK;go_simp;refine (hsum.out _ _ _ hB26 ⟨hr26.weak (fun _ h _=>h),hc26⟩).mono ?_;rintro e y27 ⟨rfl,hb27⟩;have hB27:Below w1.heap.size w1 y27:=hB26.trans (hb27.mono hB26.size);have hrB27:=hrB26.stayB hb27;refine hK _ _ ⟨⟨_,(hPS.out _).2 hB27⟩,rfl⟩ ?_;clear hK;refine lA ?_;intro K hK;refine Ji _ rfl 59 (.tmp 34) rfl w1.drew.heap.size rfl dg hrB27 hdgl rfl ?_;refine hK _ _ ⟨⟨_,(hPS.out _).2 hB27⟩,rfl⟩ ?_;clear hK;repeat (first | (refine Zc (lC 9 (.tmp 25) none (some (.tmp 26)) none) rfl rfl (.string ⟨bo.toArray⟩) (fun w' _=>Xv w' rfl s bo bo.length rfl rfl hle1 htk.out) ?_;go_frame) | (refine Zc (lC 9 (.tmp 30) (some (.tmp 31)) none none) rfl rfl (.string ⟨dg.toArray⟩) (fun w' _=>Jb w' rfl s dg bo.length rfl rfl hle1 hdr.out) ?_;go_frame) | (refine Zc (.binOp .neq 59 (.tmp 29) (.tmp 35) 59) rfl rfl (.bool (!(hh == dg))) (fun w' _=>Xx w' rfl hh dg rfl rfl hhl hdgl) ?_;go_frame) | go_big_quiet_step (fail))
      refine lA ?_
      change wpList _ _ _ _ _ y27
      go_wp2_with fail;go_meet;exact⟨rfl,hB27⟩
     ·skip
      intro K hK;refine Ji _ rfl 59 (.tmp 34) rfl w1.drew.heap.size rfl dg hrB26 hdgl rfl ?_;refine hK _ _ ⟨⟨_,(hPS.out _).2 hB26⟩,rfl⟩ ?_;clear hK;refine lA ?_;intro K hK;go_simp;refine (hsum.out _ _ _ hB26 ⟨hr26.weak (fun _ h _=>h),hc26⟩).mono ?_;rintro e y30 ⟨rfl,hb30⟩;have hB30:Below w1.heap.size w1 y30:=hB26.trans (hb30.mono hB26.size);have hrB30:=hrB26.stayB hb30;refine hK _ _ ⟨⟨_,(hPS.out _).2 hB30⟩,rfl⟩ ?_;clear hK;repeat (first | (refine Zc (lC 9 (.tmp 25) none (some (.tmp 26)) none) rfl rfl (.string ⟨bo.toArray⟩) (fun w' _=>Xv w' rfl s bo bo.length rfl rfl hle1 htk.out) ?_;go_frame) | (refine Zc (lC 9 (.tmp 30) (some (.tmp 31)) none none) rfl rfl (.string ⟨dg.toArray⟩) (fun w' _=>Jb w' rfl s dg bo.length rfl rfl hle1 hdr.out) ?_;go_frame) | (refine Zc (.binOp .neq 59 (.tmp 29) (.tmp 35) 59) rfl rfl (.bool (!(hh == dg))) (fun w' _=>Xx w' rfl hh dg rfl rfl hhl hdgl) ?_;go_frame) | go_big_quiet_step (fail))
      refine lA ?_
      change wpList _ _ _ _ _ y30
      go_wp2_with fail;go_meet;exact⟨rfl,hB30⟩
    ·skip
     intro K hK;refine Ji _ rfl 59 (.tmp 34) rfl w1.drew.heap.size rfl dg hr15 hdgl rfl ?_;refine hK _ _ ⟨⟨_,(hPS.out _).2 hB15⟩,rfl⟩ ?_;clear hK;refine lA ?_;intro K hK;refine Js _ rfl (.tmp 27) rfl bo rfl ?_;intro y32 c32 hb32 hlt32 hc32 hr32;have hB32:Below w1.heap.size w1 y32:=hB15.trans (hb32.mono hB15.size);have hrB32:=hr15.stayB hb32;refine hK _ _ ⟨⟨_,(hPS.out _).2 hB32⟩,rfl⟩ ?_;clear hK;refine lA ?_;intro K hK;go_simp;refine (hsum.out _ _ _ hB32 ⟨hr32.weak (fun _ h _=>h),hc32⟩).mono ?_;rintro e y33 ⟨rfl,hb33⟩;have hB33:Below w1.heap.size w1 y33:=hB32.trans (hb33.mono hB32.size);have hrB33:=hrB32.stayB hb33;refine hK _ _ ⟨⟨_,(hPS.out _).2 hB33⟩,rfl⟩ ?_;clear hK;repeat (first | (refine Zc (lC 9 (.tmp 25) none (some (.tmp 26)) none) rfl rfl (.string ⟨bo.toArray⟩) (fun w' _=>Xv w' rfl s bo bo.length rfl rfl hle1 htk.out) ?_;go_frame) | (refine Zc (lC 9 (.tmp 30) (some (.tmp 31)) none none) rfl rfl (.string ⟨dg.toArray⟩) (fun w' _=>Jb w' rfl s dg bo.length rfl rfl hle1 hdr.out) ?_;go_frame) | (refine Zc (.binOp .neq 59 (.tmp 29) (.tmp 35) 59) rfl rfl (.bool (!(hh == dg))) (fun w' _=>Xx w' rfl hh dg rfl rfl hhl hdgl) ?_;go_frame) | go_big_quiet_step (fail))
     refine lA ?_
     change wpList _ _ _ _ _ y33
     go_wp2_with fail;go_meet;exact⟨rfl,hB33⟩
 case rest =>
  obtain⟨rfl,hbc⟩:=hcut;have hb2:=hb1.out.trans (hbc.mono hb1.out.size);have hZ2:=hZ1.out.below hbc hZ1.out.lt;clear hbc hb1 hZ1 hsum;replace hb2:=iD hb2;replace hZ2:=iD hZ2;by_cases heq:hh=dg
  case neg =>
   have hno:=iD (hnos.out heq);have hq:(!(hh == dg))=true:=by simpa using heq
   rw[hq];clear heq hq;go_wp2_with (first | (refine Zd rfl 25 (.tmp 2) (.tmp 37) rfl w.heap.size Zk rfl rfl 25 Zk hZ2.out rfl (Xf Xr Z0 Z0) U1 ?_;go_frame) | fail);exact Kd rfl w.heap.size 25 Zk _ (.int .i64 10) rfl rfl (hZ2.out.setRow_same Zk) underlying25 rfl (Xf Xr Z0 Z0) rfl ⟨below_setRow hb2.out (lB _) _,.inr ⟨hno.out,10,by decide,rfl⟩⟩
  have hrm:=iD (hmain.out heq);have hq:(!(hh == dg))=false:=by simp[heq]
  rw[hq];clear heq hq hmain hnos hdr hhh hdg;go_upto_region 11 with (first
   | (refine Y2 (.slice 9 (.tmp 38) none (some (.tmp 39)) none) rfl rfl (.string ⟨bo.toArray⟩) (Xv _ rfl s bo bo.length rfl rfl hle1 htk.out) ?_;go_frame)
   | (refine Z0s rfl (.tmp 40) rfl bo rfl ?_;intro w3 c3 hb3 hlt3 hc3 hr3;replace hb3:=iD hb3;replace hr3:=iD hr3;go_frame)
   | (refine Zd rfl 123 (.tmp 5) (.tmp 42) rfl w3.heap.size (Z2c (some ⟨wc.heap.size,0,none⟩) bo.length c3 3 0) rfl rfl 123 [.slice none 0 0,.int .i64 0,.int .i64 0] (Blk.new_at rfl) rfl rdrSz (by simp[lI]) ?_;go_frame)
   | fail)
  generalize hW4:lM _ _ _=w4;have hG4:Blk w4 w3.heap.size 123 (Z2c (some ⟨wc.heap.size,0,none⟩) bo.length c3 3 0):=by rw[<-hW4];exact (Blk.new_at (cs:=[.slice none 0 0,.int .i64 0,.int .i64 0]) rfl).setRow_same _
  have hb34:Below w3.heap.size w3 w4:=by rw[<-hW4];exact below_setRow bL (lB _) _
  obtain⟨g,hg⟩:∃ g,g=w3.heap.size:=⟨_,rfl⟩;obtain⟨A,hA⟩:∃ A,A=(some ⟨wc.heap.size,0,none⟩:Option Addr):=⟨_,rfl⟩;have hr4:Src g g w4 A bo:=by
   rw[hg,hA];exact (hr3.out.stayB hb34).weak (fun b _ e=>by subst e;exact⟨by omega,by omega⟩)
  have hb04:=(hb2.out.trans (hb3.out.mono hb2.out.size)).trans (hb34.mono (lE hb2.out.size hb3.out.size));have hZ4:=hZ2.out.below (hb3.out.trans (hb34.mono hb3.out.size)) hZ2.out.lt;have hwg:w.heap.size<g:=by have:=hZ2.out.lt;omega
  rw[<-hg] at hG4;rw[<-hA] at hG4;have hB4:Jh w4 g A c3 bo (some (bo.drop 3)):=⟨3,hbl2.1,rfl,hG4⟩;rw[<-hg,<-hA];obtain⟨R,hR⟩:∃ R,R=rdM (some (bo.drop 3)):=⟨_,rfl⟩;have ek:Ya (some (bo.drop 3))=R.k:=by rw[hR];rfl
  have es:Ya R.k.2=R.s:=by rw[hR];rfl
  have en:Jz R.s.2=R.n:=by rw[hR];rfl
  have eo:Y0 32 256 R.n.2=R.o:=by rw[hR];rfl
  have ew:Y0 32 256 R.o.2=R.w:=by rw[hR];rfl
  have ep:Y0 1 1048576 R.w.2=R.p:=by rw[hR];rfl
  have ec:Ya R.p.2=R.c:=by rw[hR];rfl
  have hrd:Xp s=if R.c.2=some [] then (if Yc R.msg=0 then some R.msg else none) else none:=by rw[hrm.out,hR];exact Zhd _
  have hkw:(Lit.int .i64 R.k.1).wf=true:=by
   rw[<-ek];have:=Zhf (some (bo.drop 3));simp only[Lit.wf,Bool.and_eq_true,decide_eq_true_eq];exact⟨by show (-9223372036854775808:Int)<=_;omega,by show _<=(9223372036854775807:Int);omega⟩
  have hnl:R.n.1.length<=140737488355328:=by
   rw[<-en];exact lE (Zl1 _) (by omega)
  clear hW4 hG4 hb34 hb2 hb3 hr3 hZ2 hrm hbo htk hle1;have hbt:bo.length<=1099511627776:=by omega
  replace hrd:=iD hrd;replace hR:=iD hR;replace hg:=iD hg;replace hA:=iD hA;replace ek:=iD ek;replace es:=iD es;replace en:=iD en;replace eo:=iD eo;replace ew:=iD ew;replace ep:=iD ep;replace ec:=iD ec;have hgz:=hB4.lt;have h1:=Z0g bo A c3 g _ w4 hB4 (hr4.weak (fun _ _ h=>h.1)) hbt;rw[ek.out] at h1;replace h1:=iD h1;clear hB4;replace hr4:=iD hr4;replace hb04:=iD hb04;replace hZ4:=iD hZ4;go_wp2_with fail;refine h1.out.mono ?_;rintro e w5 ⟨rfl,hB5,hT5⟩;have hr5:=hr4.out.touch hT5 (by omega);have hgz5:=lF hgz hT5.size;have h2:=Z0g bo A c3 g _ w5 hB5 (hr5.weak (fun _ _ h=>h.1)) hbt;rw[es.out] at h2;replace h2:=iD h2;clear hB5 h1 hr4;replace hr5:=iD hr5;replace hT5:=iD hT5;go_wp2_with fail;refine h2.out.mono ?_;rintro e w6 ⟨rfl,hB6,hT6⟩;have hr6:=hr5.out.touch hT6 (by omega);have hgz6:=lF hgz5 hT6.size;have hT46:=hT5.out.trans hT6 (fun _ h=>.inl h);have h3:=Zha bo A c3 g _ w6 hB6 (hr6.weak (fun _ _ h=>h.1)) hbt hc3;rw[en.out] at h3;unfold Z1 at h3;replace h3:=iD h3;clear hB6 h2 hr5 hT5 hT6;replace hr6:=iD hr6;replace hT46:=iD hT46;go_wp2_with fail;refine h3.out.mono ?_;rintro e w7 ⟨rfl,hB7,hT7⟩;have hr7:=hr6.out.touch hT7 (by omega);have hgz7:=lF hgz6 hT7.size;have hT47:=hT46.out.trans hT7 (fun _ h=>.inl h);clear h3 hr6 hT46 hT7;replace hr7:=iD hr7;replace hT47:=iD hT47;replace hB7:=iD hB7;go_upto_region 12 with (first
   | (refine Zd rfl 25 (.tmp 6) (.tmp 46) rfl w7.heap.size [.int .i64 R.k.1,.int .i64 R.s.1,.string ⟨R.n.1.toArray⟩,.slice none 0 0,.slice none 0 0,.string ⟨#[]⟩,.int .i64 0] rfl rfl 25 Zk (Blk.new_at rfl) rfl (Xf Xr Z0 Z0) (by simp[lI]) ?_;go_frame)
   | fail)
  generalize hW8:lM _ _ _=w8;have hM8:Blk w8 w7.heap.size 25 [.int .i64 R.k.1,.int .i64 R.s.1,.string ⟨R.n.1.toArray⟩,Z0,Z0,.string ⟨#[]⟩,.int .i64 0]:=by rw[<-hW8];exact (Blk.new_at (cs:=Zk) rfl).setRow_same _
  have hb78:Below w7.heap.size w7 w8:=by rw[<-hW8];exact below_setRow bL (lB _) _
  obtain⟨mb,hmb⟩:∃ mb,mb=w7.heap.size:=⟨_,rfl⟩;rw[<-hmb] at hM8;rw[<-hmb];have hgm:g<mb:=by omega
  have hmz:=hM8.lt;have hr8:Src g g w8 A bo:=hr7.out.stayB hb78;have hB8:=hB7.out.below hb78;have hT48:=hT47.out.trans (Touch.ofBelow (L:=[]) hb78) (fun _ h=>by cases h);have hb08:=hb04.out.trans (hT48.below hb04.out.size (fun i hi=>by simp at hi;omega));have hZ8:=hZ4.out.touch hT48 (by simp;omega);clear hW8 hb78 hr7 hB7 hT47 hT48 hb04 hZ4 hgz hgz5 hgz6 hgz7;have hgz:=hB8.lt;replace hmb:=iD hmb;have h4:=Za5 bo A c3 g g _ w8 hB8 hr8 (by omega) hbt hc3;rw[eo.out] at h4;replace h4:=iD h4;clear hB8;replace hr8:=iD hr8;replace hM8:=iD hM8;replace hb08:=iD hb08;replace hZ8:=iD hZ8;go_wp2_with fail;refine h4.out.mono ?_;rintro e w9 ⟨u,rfl,hO9,hOn,hB9,hT9⟩;have hr9:=hr8.out.touch hT9 (by omega);have hgz9:=lF hgz hT9.size;have hz89:=hT9.size;have hM9:=hM8.out.touch hT9 (by simp;omega);have hb09:=hb08.out.trans (hT9.below hb08.out.size (fun i hi=>by simp at hi;omega));have hZ9:=hZ8.out.touch hT9 (by simp;omega);have h5:=Za5 bo A c3 g g _ w9 hB9 hr9 (by omega) hbt hc3;rw[ew.out] at h5;replace h5:=iD h5;obtain⟨lo,hlo⟩:∃ lo,lo=K8 (R.o.1.length / 32) R.o.1:=⟨_,rfl⟩;obtain⟨ln,hln⟩:∃ ln,ln=K8 (R.w.1.length / 32) R.w.1:=⟨_,rfl⟩;rw[<-hlo] at hO9 hOn;rw[<-hln] at h5;replace hlo:=iD hlo;replace hln:=iD hln;obtain⟨UA,uc,rfl,_,_⟩:=Za hO9;clear h4 hr8 hB9 hT9 hM8 hb08 hZ8;replace hO9:=iD hO9;replace hOn:=iD hOn;replace hr9:=iD hr9;replace hM9:=iD hM9;replace hb09:=iD hb09;replace hZ9:=iD hZ9;go_wp2_with fail;refine h5.out.mono ?_;rintro e w10 ⟨u2,rfl,hN10,hNn,hB10,hT10⟩;obtain⟨VA,vc,rfl,_,_⟩:=Za hN10;have hr10:=hr9.out.touch hT10 (by omega);have hgz10:=lF hgz9 hT10.size;have hz910:=hT10.size;have hM10:=hM9.out.touch hT10 (by simp;omega);have hb010:=hb09.out.trans (hT10.below hb09.out.size (fun i hi=>by simp at hi;omega));have hZ10:=hZ9.out.touch hT10 (by simp;omega);have hO10:=Kl hO9.out hT10 (by simp;omega);clear h5 hr9 hM9 hb09 hZ9 hO9 hT10;have m3:w10.cell? ⟨mb,3,none⟩=some Z0:=hM10.cell 3;have m3f:=hM10.frozen 3;have hM10a:=hM10.set_ 3 (.slice UA lo.length uc);have m4:(w10.setCell ⟨mb,3,none⟩ (.slice UA lo.length uc)).cell? ⟨mb,4,none⟩=some Z0:=hM10a.cell 4;have m4f:=hM10a.frozen 4;have hM11:=hM10a.set_ 4 (.slice VA ln.length vc);have hT11:Touch [mb] w10 ((w10.setCell ⟨mb,3,none⟩ (.slice UA lo.length uc)).setCell ⟨mb,4,none⟩ (.slice VA ln.length vc)):=Gd w10 mb 0 3 4 _ _
  change Blk _ mb 25 [.int .i64 R.k.1,.int .i64 R.s.1,.string ⟨R.n.1.toArray⟩,.slice UA lo.length uc,.slice VA ln.length vc,.string ⟨#[]⟩,.int .i64 0] at hM11
  clear hM10 hM10a;replace hM11:=iD hM11;replace hT11:=iD hT11;replace hr10:=iD hr10;replace hB10:=iD hB10;replace hb010:=iD hb010;replace hZ10:=iD hZ10;replace hO10:=iD hO10;replace hN10:=iD hN10;replace hNn:=iD hNn;go_upto_region 13 with fail;generalize lG (lG w10 _ _) _ _=w11 at hM11 hT11 ⊢;clear m3 m3f m4 m4f;have hgb:∀ i ∈ [mb],i<w8.heap.size:=by simp;omega
  have hr11:Src g g w11 A bo:=hr10.out.stay (fun b hb hlt=>hT11.out.block b hlt (by have:=hb.2;simp;omega)) (fun _ h _=>h);have hB11:=hB10.out.heap (hT11.out.block g hgz10 (by simp;omega));have hz1011:=hT11.out.size;have hgz11:=lF hgz10 hz1011;have hb011:=hb010.out.trans (hT11.out.below hb010.out.size (fun i hi=>by simp at hi;omega));have hZ11:=hZ10.out.touch hT11.out (by simp;omega);have hO11:=Kl hO10.out hT11.out hgb;have hN11:=Kl hN10.out hT11.out (by simp;omega);clear hr10 hB10 hT11 hb010 hZ10 hO10 hN10;have h6:=Zhc bo A c3 g g _ w11 hB11 hr11 (by omega) hbt hc3;rw[ep.out] at h6;replace h6:=iD h6;clear hB11;replace hr11:=iD hr11;replace hb011:=iD hb011;replace hZ11:=iD hZ11;replace hO11:=iD hO11;replace hN11:=iD hN11;go_wp2_with fail;refine h6.out.mono ?_;rintro e w12 ⟨PA,pc,rfl,hpc,hpr,hB12,hT12⟩;have hr12:=hr11.out.touch hT12 (by omega);have hz1112:=hT12.size;have hgz12:=lF hgz11 hz1112;have hM12:=hM11.out.touch hT12 (by simp;omega);have hb012:=hb011.out.trans (hT12.below hb011.out.size (fun i hi=>by simp at hi;omega));have hZ12:=hZ11.out.touch hT12 (by simp;omega);have hO12:=Kl hO11.out hT12 (by simp;omega);have hN12:=Kl hN11.out hT12 (by simp;omega);clear h6 hr11 hM11 hb011 hZ11 hO11 hN11 hT12;have m5:w12.cell? ⟨mb,5,none⟩=some (.string ⟨#[]⟩):=hM12.cell 5;have m5f:=hM12.frozen 5;have hM13:=hM12.set_ 5 (.string ⟨R.p.1.toArray⟩);have hT13:Touch [mb] w12 (w12.setCell ⟨mb,5,none⟩ (.string ⟨R.p.1.toArray⟩)):=Touch.setCell _ (by simp)
  change Blk _ mb 25 [.int .i64 R.k.1,.int .i64 R.s.1,.string ⟨R.n.1.toArray⟩,.slice UA lo.length uc,.slice VA ln.length vc,.string ⟨R.p.1.toArray⟩,.int .i64 0] at hM13
  clear hM12;replace hpr:=iD hpr;replace hr12:=iD hr12;replace hM13:=iD hM13;replace hT13:=iD hT13;replace hB12:=iD hB12;replace hb012:=iD hb012;replace hZ12:=iD hZ12;replace hO12:=iD hO12;replace hN12:=iD hN12;go_upto_region 14 with (first
   | (refine Qf rfl 57 9 (.tmp 51) rfl 5 underlying57 underlying5 underlying9 PA R.p.1 pc rfl hpr.out ?_;go_frame)
   | fail)
  generalize lG w12 _ _=w13 at hM13 hT13 ⊢;clear m5 m5f;have hB13:=hB12.out.heap (hT13.out.block g hgz12 (by simp;omega));have hr13:Src g g w13 A bo:=hr12.out.stay (fun b hb hlt=>hT13.out.block b hlt (by have:=hb.2;simp;omega)) (fun _ h _=>h);have hz1213:=hT13.out.size;have hgz13:=lF hgz12 hz1213;have hb013:=hb012.out.trans (hT13.out.below hb012.out.size (fun i hi=>by simp at hi;omega));have hZ13:=hZ12.out.touch hT13.out (by simp;omega);have hO13:=Kl hO12.out hT13.out hgb;have hN13:=Kl hN12.out hT13.out (by simp;omega);clear hr12 hB12 hT13 hb012 hZ12 hO12 hN12 hpr;have h7:=Z0g bo A c3 g _ w13 hB13 (hr13.weak (fun _ _ h=>h.1)) hbt;rw[ec.out] at h7;replace h7:=iD h7;clear hB13 hr13;replace hb013:=iD hb013;replace hZ13:=iD hZ13;replace hO13:=iD hO13;replace hN13:=iD hN13;go_wp2_with fail;refine h7.out.mono ?_;rintro e w14 ⟨rfl,hB14,hT14⟩;have hz1314:=hT14.size;have hgz14:=lF hgz13 hz1314;have hM14:=hM13.out.touch hT14 (by simp;omega);have hb014:=hb013.out.trans (hT14.below hb013.out.size (fun i hi=>by simp at hi;omega));have hZ14:=hZ13.out.touch hT14 (by simp;omega);have hO14:=Kl hO13.out hT14 (by simp;omega);have hN14:=Kl hN13.out hT14 (by simp;omega);clear h7 hM13 hb013 hZ13 hO13 hN13 hT14;have m6:w14.cell? ⟨mb,6,none⟩=some (.int .i64 0):=hM14.cell 6;have m6f:=hM14.frozen 6;have hM15:=hM14.set_ 6 (.int .i64 R.c.1);have hT15:Touch [mb] w14 (w14.setCell ⟨mb,6,none⟩ (.int .i64 R.c.1)):=Touch.setCell _ (by simp)
  change Blk _ mb 25 [.int .i64 R.k.1,.int .i64 R.s.1,.string ⟨R.n.1.toArray⟩,.slice UA lo.length uc,.slice VA ln.length vc,.string ⟨R.p.1.toArray⟩,.int .i64 R.c.1] at hM15
  clear hM14;replace hM15:=iD hM15;replace hT15:=iD hT15;replace hB14:=iD hB14;replace hb014:=iD hb014;replace hZ14:=iD hZ14;replace hO14:=iD hO14;replace hN14:=iD hN14;go_upto_region 15 with fail;generalize lG w14 _ _=w15 at hM15 hT15 ⊢;clear m6 m6f;have hB15:=hB14.out.heap (hT15.out.block g hgz14 (by simp;omega));have hz1415:=hT15.out.size;have hgz15:=lF hgz14 hz1415;have hb015:=hb014.out.trans (hT15.out.below hb014.out.size (fun i hi=>by simp at hi;omega));have hZ15:=hZ14.out.touch hT15.out (by simp;omega);have hO15:=Kl hO14.out hT15.out hgb;have hN15:=Kl hN14.out hT15.out (by simp;omega);clear hB14 hT15 hb014 hZ14 hO14 hN14 hKb;have hmsg:R.msg=⟨R.k.1,R.s.1,R.n.1,lo,ln,R.p.1,R.c.1⟩:=by rw[hlo.out,hln.out];rfl
  rw[hmsg] at hrd;obtain⟨M,hMe⟩:∃ M:PMsg,M=⟨R.k.1,R.s.1,R.n.1,lo,ln,R.p.1,R.c.1⟩:=⟨_,rfl⟩;have hMl:([.int .i64 R.k.1,.int .i64 R.s.1,.string ⟨R.n.1.toArray⟩,.slice UA lo.length uc,.slice VA ln.length vc,.string ⟨R.p.1.toArray⟩,.int .i64 R.c.1]:List Value)=Zx M (.slice UA lo.length uc) (.slice VA ln.length vc):=by rw[hMe];rfl
  have hMo:M.old=lo:=by rw[hMe]
  have hMn:M.new=ln:=by rw[hMe]
  have hMk:M.kind=R.k.1:=by rw[hMe]
  have hMm:M.name=R.n.1:=by rw[hMe]
  rw[<-hMe] at hrd;rw[hMl] at hM15;rw[<-hMk] at hkw;rw[<-hMm] at hnl;rw[<-hMo] at hO15 hOn hMl;rw[<-hMn] at hN15 hNn hMl;generalize hcs:R.c.2=st at hB15 hrd;replace hcs:=iD hcs;replace hMe:=iD hMe;replace hMl:=iD hMl;replace hmsg:=iD hmsg;replace hMo:=iD hMo;replace hMn:=iD hMn;replace hMk:=iD hMk;replace hMm:=iD hMm;replace hZ15:=iD hZ15;replace hO15:=iD hO15;replace hN15:=iD hN15;replace hb015:=iD hb015;cases st with
  | none =>
   obtain⟨k15,er,her,her2,hG15⟩:=hB15;have hno:Xp s=none:=by rw[hrd.out];simp
   replace hno:=iD hno;have g2:w15.cell? ⟨g,2,none⟩=some (.int .i64 (er:Int)):=hG15.cell 2;have hne:((er:Int) != 0)=true:=by simp;omega
   have heq:((er:Int) == 0)=false:=by simp;omega
   replace hG15:=iD hG15;go_wp2_with fail;have hne2:(er:Int) ≠ 0:=by omega
   obtain⟨PS,hPS⟩:∃ PS:World->Prop,∀ y,PS y ↔ ∃ cs,Blk y g 123 cs/\cs[2]?=some (.int .i64 (er:Int)):=⟨_,fun _=>lL⟩;have s1:∀ y:Cls PS,y.1.cell? ⟨g,2,none⟩=some (.int .i64 (er:Int)):=fun y=>by
    obtain⟨cs,h1,h2⟩:=(hPS _).1 y.2;rw[h1.cell];exact h2
   have hGd:=hG15.out.drew;have s4:PS w15.drew:=(hPS _).2 ⟨_,hGd,rfl⟩;haveI : Nonempty (Cls PS):=⟨⟨_,s4⟩⟩;have hZd:=hZ15.out.drew;have hbd:=hb015.out.drew;have s5:PS (w15.drew.setRow w.heap.size Zk.toArray):=(hPS _).2 ⟨_,hGd.touch (Touch.setRow (L:=[w.heap.size]) (by simp) _) (by simp;omega),rfl⟩;replace hPS:=iD hPS;replace hZd:=iD hZd;replace hbd:=iD hbd;replace hGd:=iD hGd;refine Yh (fun w'=>∃ y:Cls PS,w'=y.1) [([0,1,2],3)] [] 4 [] (by kernel_rfl) (by kernel_rfl) (fun _ d _ _ _ h=>by cases d <;> exact h) ⟨⟨_,s4⟩,rfl⟩ ?_;simp only[Y4,Z7,lH,lJ,Zo,Zn];repeat (first | go_big_quiet_step (fail))
   refine lA ?_;intro K hK;refine G5 _ rfl 25 (.tmp 2) (.tmp 75) rfl w.heap.size Zk rfl rfl 25 Zk hZd.out rfl (Xf Xr Z0 Z0) U1 ?_;refine hK _ _ ⟨⟨_,s5⟩,rfl⟩ ?_;clear hK;refine lA ?_;go_frame;have hfin:Hid (Z0v w s (.returned (.tuple #[.agg Zk.toArray,.int .i64 (er:Int)])) (w15.drew.setRow w.heap.size Zk.toArray)):=iD ⟨below_setRow hbd.out (lB _) _,.inr ⟨hno.out,(er:Int),by simpa using hne2,rfl⟩⟩;go_wp2_with (first | (exact Kd rfl w.heap.size 25 Zk _ (.int .i64 (er:Int)) rfl rfl (hZd.out.setRow_same Zk) underlying25 rfl (Xf Xr Z0 Z0) rfl hfin.out) | fail)
  | some r15 =>
   obtain⟨k15,hk15,hkr,hG15⟩:=hB15;have g2:w15.cell? ⟨g,2,none⟩=some (.int .i64 0):=hG15.cell 2;have g1:w15.cell? ⟨g,1,none⟩=some (.int .i64 (k15:Int)):=hG15.cell 1;by_cases hend:r15=[]
   case neg =>
    have hkl:k15<bo.length:=by
     apply Classical.byContradiction;intro hn;apply hend;rw[<-hkr];exact List.drop_eq_nil_of_le (by omega)
    have hno:Xp s=none:=by rw[hrd.out,if_neg (by simpa using hend)]
    have hne:((k15:Int) != (bo.length:Int))=true:=by simp;omega
    have g2f:=hG15.frozen 2;have hG16:=hG15.set_ 2 (.int .i64 7);have hT16:Touch [g] w15 (w15.setCell ⟨g,2,none⟩ (.int .i64 7)):=Touch.setCell _ (by simp);have g2':(w15.setCell ⟨g,2,none⟩ (.int .i64 7)).cell? ⟨g,2,none⟩=some (.int .i64 7):=hG16.cell 2;replace hno:=iD hno;replace hG16:=iD hG16;replace hT16:=iD hT16;clear hkr hG15 hend;go_wp2_with fail;generalize lG w15 _ _=w16 at hG16 hT16 g2' ⊢;have hb016:=hb015.out.trans (hT16.out.below hb015.out.size (fun i hi=>by simp at hi;omega));have hZ16:=hZ15.out.touch hT16.out (by simp;omega);clear g2 g1 g2f hne g2';have hne2:(7:Int) ≠ 0:=by omega
    replace hb016:=iD hb016;replace hZ16:=iD hZ16;obtain⟨PS,hPS⟩:∃ PS:World->Prop,∀ y,PS y ↔ ∃ cs,Blk y g 123 cs/\cs[2]?=some (.int .i64 7):=⟨_,fun _=>lL⟩;have s1:∀ y:Cls PS,y.1.cell? ⟨g,2,none⟩=some (.int .i64 7):=fun y=>by
     obtain⟨cs,h1,h2⟩:=(hPS _).1 y.2;rw[h1.cell];exact h2
    have hGd:=hG16.out.drew;have s4:PS w16.drew:=(hPS _).2 ⟨_,hGd,rfl⟩;haveI : Nonempty (Cls PS):=⟨⟨_,s4⟩⟩;have hZd:=hZ16.out.drew;have hbd:=hb016.out.drew;have s5:PS (w16.drew.setRow w.heap.size Zk.toArray):=(hPS _).2 ⟨_,hGd.touch (Touch.setRow (L:=[w.heap.size]) (by simp) _) (by simp;omega),rfl⟩;replace hPS:=iD hPS;replace hZd:=iD hZd;replace hbd:=iD hbd;replace hGd:=iD hGd;refine Yh (fun w'=>∃ y:Cls PS,w'=y.1) [([0,1,2],3)] [] 4 [] (by kernel_rfl) (by kernel_rfl) (fun _ d _ _ _ h=>by cases d <;> exact h) ⟨⟨_,s4⟩,rfl⟩ ?_;simp only[Y4,Z7,lH,lJ,Zo,Zn];repeat (first | go_big_quiet_step (fail))
    refine lA ?_;intro K hK;refine G5 _ rfl 25 (.tmp 2) (.tmp 75) rfl w.heap.size Zk rfl rfl 25 Zk hZd.out rfl (Xf Xr Z0 Z0) U1 ?_;refine hK _ _ ⟨⟨_,s5⟩,rfl⟩ ?_;clear hK;refine lA ?_;go_frame;have hfin:Hid (Z0v w s (.returned (.tuple #[.agg Zk.toArray,.int .i64 7])) (w16.drew.setRow w.heap.size Zk.toArray)):=iD ⟨below_setRow hbd.out (lB _) _,.inr ⟨hno.out,7,by simp,rfl⟩⟩;go_wp2_with (first | (exact Kd rfl w.heap.size 25 Zk _ (.int .i64 7) rfl rfl (hZd.out.setRow_same Zk) underlying25 rfl (Xf Xr Z0 Z0) rfl hfin.out) | fail)
   case pos =>
    have hkl:k15=bo.length:=by
     have:=congrArg lW hkr;rw[hend,lP] at this;simp at this;omega
    have hrd2:Xp s=if Yc M=0 then some M else none:=by rw[hrd.out,if_pos (by rw[hend])]
    have heq:((k15:Int) != (bo.length:Int))=false:=by simp;omega
    have hmz15:mb<w15.heap.size:=hM15.out.lt;have hmy:=Zag M (.slice UA M.old.length uc) (.slice VA M.new.length vc) (fun _=>True) w15 hkw ((Zak hO15.out).stay (fun _ _ _=>rfl) (fun _ _ _=>trivial)) ((Zak hN15.out).stay (fun _ _ _=>rfl) (fun _ _ _=>trivial)) hnl;rw[<-hMo.out,<-hMn.out] at hM15;replace hmy:=iD hmy;replace hrd2:=iD hrd2;replace hG15:=iD hG15;clear hkr hkl;obtain⟨ML,hML⟩:∃ ML,ML=Zx M (.slice UA M.old.length uc) (.slice VA M.new.length vc):=⟨_,rfl⟩;have hms:(lD.info? 25).map (·.size)=some ML.length:=by rw[hML];exact Xf _ _ _
    rw[<-hML] at hM15 hmy;replace hML:=iD hML;replace hms:=iD hms;go_wp2_with (first
     | (refine Zy rfl 25 (.tmp 6) rfl mb rfl 25 ML hM15.out _ underlying25 rfl hms.out ?_;go_frame)
     | fail)
    refine hmy.out.mono ?_;rintro e w16 ⟨rfl,hb16⟩;have hG16:=hG15.out.below hb16 hgz15;have hM16:=hM15.out.below hb16 hmz15;have hZ16:=hZ15.out.below hb16 hZ15.out.lt;have hb016:=hb015.out.trans (hb16.mono hb015.out.size);have hO16:=Z2q hO15.out hb16;have hN16:=Z2q hN15.out hb16;clear g2 g1 hmy hG15 hM15 hZ15 hb015 hO15 hN15 hb16;have g2:w16.cell? ⟨g,2,none⟩=some (.int .i64 0):=hG16.cell 2;have g2f:=hG16.frozen 2;have hG17:=hG16.set_ 2 (.int .i64 (Yc M));have g2':(w16.setCell ⟨g,2,none⟩ (.int .i64 (Yc M))).cell? ⟨g,2,none⟩=some (.int .i64 (Yc M)):=hG17.cell 2;have hT17:Touch [g] w16 (w16.setCell ⟨g,2,none⟩ (.int .i64 (Yc M))):=Touch.setCell _ (by simp);have hM17:=hM16.touch hT17 (by simp;omega);have hZ17:=hZ16.touch hT17 (by simp;omega);have hb017:=hb016.trans (hT17.below hb016.size (fun i hi=>by simp at hi;omega));have hO17:=Kl hO16 hT17 (by simp;omega);have hN17:=Kl hN16 hT17 (by simp;omega);clear hG16 hM16 hZ16 hb016 hO16 hN16 hT17;replace hG17:=iD hG17;replace hM17:=iD hM17;replace hZ17:=iD hZ17;replace hb017:=iD hb017;replace hO17:=iD hO17;replace hN17:=iD hN17;by_cases hme:Yc M=0
    case neg =>
     have hno:Xp s=none:=by rw[hrd2.out,if_neg hme]
     have hne:(Yc M != 0)=true:=by simpa using hme
     have hne2:=hme;obtain⟨er,her⟩:∃ er,er=Yc M:=⟨_,rfl⟩;rw[<-her] at hG17 g2' hM17 hZ17 hb017 hO17 hN17 hne hne2 ⊢;replace hno:=iD hno;clear hme her;go_wp2_with fail;generalize lG w16 _ _=w17 at hG17 hZ17 hb017 g2' ⊢;clear g2 g2f g2' hne;obtain⟨PS,hPS⟩:∃ PS:World->Prop,∀ y,PS y ↔ ∃ cs,Blk y g 123 cs/\cs[2]?=some (.int .i64 er):=⟨_,fun _=>lL⟩;have s1:∀ y:Cls PS,y.1.cell? ⟨g,2,none⟩=some (.int .i64 er):=fun y=>by
      obtain⟨cs,h1,h2⟩:=(hPS _).1 y.2;rw[h1.cell];exact h2
     have hGd:=hG17.out.drew;have s4:PS w17.drew:=(hPS _).2 ⟨_,hGd,rfl⟩;haveI : Nonempty (Cls PS):=⟨⟨_,s4⟩⟩;have hZd:=hZ17.out.drew;have hbd:=hb017.out.drew;have s5:PS (w17.drew.setRow w.heap.size Zk.toArray):=(hPS _).2 ⟨_,hGd.touch (Touch.setRow (L:=[w.heap.size]) (by simp) _) (by simp;omega),rfl⟩;replace hPS:=iD hPS;replace hZd:=iD hZd;replace hbd:=iD hbd;replace hGd:=iD hGd;refine Yh (fun w'=>∃ y:Cls PS,w'=y.1) [([0,1,2],3)] [] 4 [] (by kernel_rfl) (by kernel_rfl) (fun _ d _ _ _ h=>by cases d <;> exact h) ⟨⟨_,s4⟩,rfl⟩ ?_;simp only[Y4,Z7,lH,lJ,Zo,Zn];repeat (first | go_big_quiet_step (fail))
     refine lA ?_;intro K hK;refine G5 _ rfl 25 (.tmp 2) (.tmp 75) rfl w.heap.size Zk rfl rfl 25 Zk hZd.out rfl (Xf Xr Z0 Z0) U1 ?_;refine hK _ _ ⟨⟨_,s5⟩,rfl⟩ ?_;clear hK;refine lA ?_;go_frame;have hfin:Hid (Z0v w s (.returned (.tuple #[.agg Zk.toArray,.int .i64 er])) (w17.drew.setRow w.heap.size Zk.toArray)):=iD ⟨below_setRow hbd.out (lB _) _,.inr ⟨hno.out,er,by simpa using hne2,rfl⟩⟩;go_wp2_with (first | (exact Kd rfl w.heap.size 25 Zk _ (.int .i64 er) rfl rfl (hZd.out.setRow_same Zk) underlying25 rfl (Xf Xr Z0 Z0) rfl hfin.out) | fail)
    case pos =>
     have hyes:Xp s=some M:=by rw[hrd2.out,if_pos hme]
     rw[hme] at hG17 g2' hM17 hZ17 hb017 hO17 hN17 ⊢;replace hyes:=iD hyes;clear hme hG17 hrd2;have hm1:∀ v ∈ ML,v.oneCell'=true:=by
      rw[hML.out];simp[Zx,lI]
     replace hm1:=iD hm1;have hfin:Hid (Z0v w s (.returned (.tuple #[.agg ML.toArray,.int .i64 0])) ((w16.setCell ⟨g,2,none⟩ (.int .i64 0)).setRow w.heap.size ML.toArray)):=by
      refine iD ⟨below_setRow hb017.out (lB _) _,.inl ⟨M,_,_,hyes.out,by rw[hML.out],?_,?_,?_,?_⟩⟩
      ·exact J1 (by omega) (Kl hO17.out (Touch.setRow (L:=[w.heap.size]) (by simp) _) (by simp;omega))
      ·exact J1 (by omega) (Kl hN17.out (Touch.setRow (L:=[w.heap.size]) (by simp) _) (by simp;omega))
      ·intro h;exact hOn.out h
      ·intro h;exact hNn.out h
     go_wp2_with (first
      | (refine Zy rfl 25 (.tmp 6) rfl mb rfl 25 ML hM17.out _ underlying25 rfl hms.out ?_;go_frame)
      | (refine Zd rfl 25 (.tmp 2) (.tmp 78) rfl w.heap.size ML rfl rfl 25 Zk hZ17.out (by rw[hML.out];rfl) hms.out hm1.out ?_;go_frame)
      | (exact Kd rfl w.heap.size 25 ML _ (.int .i64 0) rfl rfl (hZ17.out.setRow_same ML) underlying25 rfl hms.out rfl hfin.out)
      | fail)
end
section
set_option maxRecDepth 100000
set_option maxHeartbeats 16000000
open Go.Lib renaming hid → iD
open Go.Proofs.Tryz
open Go.RowKit
def Xg(ses:Int)(name ds ps:Str):PMsg:=⟨2,ses,name,[],[ds],ps,0⟩
theorem Zb1{ses:Int}{name ds ps:Str}(hs:0<=ses)(hn:Z6 name=true)(hp:ps.length<=1048576):Yc (Xg ses name ds ps)=0:=by
 refine may0 ?_ hn (by simp[Xg]) (by simp only[Xg];omega) ?_
 ·simp only[Xg];omega
 ·simp[Z2s,Xg,Vo,Jp,Kg]
theorem Zb2{ses:Int}{name ds ps:Str}(hs:ses<128 ^ 9)(hd:ds.length=32):MFit (Xg ses name ds ps):=⟨by simp[Xg],hs,by simp[Xg],by simp[Xg],by simp[Xg,hd]⟩
theorem Zmi{w:World}{ib io ic:Nat}{ds:Str}(_hdl:ds.length=32)(h:Xn w ib io ds)(hc:1<=ic):Ze w (fun _=>True) (.slice (some ⟨ib,io,none⟩) 1 ic) [ds]:=by
 obtain⟨cs,r,hB,hd⟩:=h;refine⟨_,ic,rfl,hc,?_⟩;have e:Zv [ds]=ds.map B:=by simp[Zv]
 rw[e];exact Rd.of_blk (r:=r) hB hd trivial
theorem Zmj(n ra a t:Str)(hn:Z6 n=true)(ha:Z6 a=true)(ht:t.length<=1000)(ses:Int)(nn:Value)(hnn:nn.oneCell'=true)(hnf:∃ A m c,nn=.slice A m c)(r:Nat)(w:World)(h:Vi n ra a t r w)(hK:Zm w) :
  Calls lD 52 #[.pointer (some ⟨r,0,none⟩),.agg (Zx (Xo ses n) Z0 nn).toArray] w fun e w'=>∃ ib io ic,e=.returned (.agg (Zx (Xg ses n (idT a t) (Xb (Yk (Ym a t)))) Z0 (.slice (some ⟨ib,io,none⟩) 1 ic)).toArray)/\Xn w' ib io (idT a t)/\1<=ic/\Below w.heap.size w w':=by
 have hdl:=Q4 a t;have hst:=iD (fun W (hb:Below w.heap.size w W)=>by
  obtain⟨lb,lc,rest,by',V,v,g,rb,br,d,h1,h2,h3,h4,h5,h6⟩:=h.below hb;exact Zmf r _ by' rb g ra n (idT a t) hdl hn br d (.bool false) v _ W h1 h5 h6)
 have hgv:=iD (fun W ib io ic (hb:Below w.heap.size w W) (hI:Xn W ib io (idT a t))=>by
  obtain⟨lb,lc,rest,by',V,v,g,rb,br,d,h1,h2,h3,h4,h5,h6⟩:=h.below hb;obtain⟨OA,oc,rfl,_,_⟩:=h3;exact Zm1 n a t hn ha ht OA _ oc r lb lc ib io ic rest by' rb g ra br d (.bool false) v _ W h1 h5 h6 h4 h2 ⟨OA,oc,rfl,‹_›,‹_›⟩ hI (keys_below hK hb))
 obtain⟨ds,hds⟩:∃ ds,ds=idT a t:=⟨_,rfl⟩;obtain⟨ps,hps⟩:∃ ps,ps=Xb (Yk (Ym a t)):=⟨_,rfl⟩;rw[<-hds] at hst hgv hdl ⊢;rw[<-hps] at hgv ⊢;obtain⟨NA,nm,nc,rfl⟩:=hnf;replace hds:=iD hds;replace hps:=iD hps;clear h hK hnn;unfold Zx Xo Xg;dsimp only;go_enter func52,ntmps52;go_upto_region 1 with fail;generalize hW1:lK (lK w _) _=w1;have hM1:Blk w1 w.heap.size 25 [.int .i64 1,.int .i64 ses,.string ⟨n.toArray⟩,Z0,.slice NA nm nc,.string ⟨#[]⟩,.int .i64 0]:=by rw[<-hW1];exact (Blk.new_at rfl).alloc _
 have hZ1:Blk w1 (w.heap.size+1) 25 Zk:=by rw[<-hW1];exact Blk.new_at (by simp)
 have hb1:Below w.heap.size w w1:=by rw[<-hW1];exact bL.alloc (by simp) _
 clear hW1;have m1:w1.cell? ⟨w.heap.size,1,none⟩=some (.int .i64 ses):=hM1.cell 1;have m2:w1.cell? ⟨w.heap.size,2,none⟩=some (.string ⟨n.toArray⟩):=hM1.cell 2;replace hM1:=iD hM1;replace hZ1:=iD hZ1;replace hb1:=iD hb1;go_upto_region 2 with (first
  | (refine Zd rfl 25 (.tmp 5) (.tmp 13) rfl w1.heap.size [.int .i64 2,.int .i64 ses,.string ⟨n.toArray⟩,.slice none 0 0,.slice none 0 0,.string ⟨#[]⟩,.int .i64 0] rfl rfl 25 Zk (Blk.new_at rfl) rfl (Xf Xr Z0 Z0) (by simp[lI]) ?_;go_frame)
  | fail)
 generalize hW2:lM _ _ _=w2;have hT2:Blk w2 w1.heap.size 25 [.int .i64 2,.int .i64 ses,.string ⟨n.toArray⟩,Z0,Z0,.string ⟨#[]⟩,.int .i64 0]:=by rw[<-hW2];exact (Blk.new_at (cs:=Zk) rfl).setRow_same _
 have hb12:Below w1.heap.size w1 w2:=by rw[<-hW2];exact below_setRow bL (lB _) _
 have hM2:=hM1.out.below hb12 hM1.out.lt;have hZ2:=hZ1.out.below hb12 hZ1.out.lt;have hb2:=hb1.out.trans (hb12.mono hb1.out.size);have hlt1:=hZ1.out.lt;have hlt2:=hT2.lt;clear hW2 m1 m2 hM1 hZ1 hb1 hb12;have m2:w2.cell? ⟨w.heap.size,2,none⟩=some (.string ⟨n.toArray⟩):=hM2.cell 2;replace hT2:=iD hT2;replace hM2:=iD hM2;replace hZ2:=iD hZ2;replace hb2:=iD hb2;go_wp2_with fail;refine (hst.out w2 hb2.out).mono ?_;rintro e w3 ⟨ib,io,ic,rfl,hD3,hic,hib,hb23⟩;have hM3:=hM2.out.below hb23 hM2.out.lt;have hZ3:=hZ2.out.below hb23 hZ2.out.lt;have hT3:=hT2.out.below hb23 hT2.out.lt;have hb3:=hb2.out.trans (hb23.mono hb2.out.size);have hgv3:=iD (hgv.out w3 ib io ic hb3 hD3);have m3:w3.cell? ⟨w.heap.size,3,none⟩=some Z0:=hM3.cell 3;clear m2 hM2 hZ2 hT2 hb2 hb23 hst hgv;replace hM3:=iD hM3;replace hZ3:=iD hZ3;replace hT3:=iD hT3;replace hb3:=iD hb3;replace hD3:=iD hD3;go_wp2_with fail;refine hgv3.out.mono ?_;rintro e w4 ⟨rfl,hb34⟩;have hZ4:=hZ3.out.below hb34 hZ3.out.lt;have hT4:=hT3.out.below hb34 hT3.out.lt;have hD4:=hD3.out.below hb34 hD3.out.lt;have hb4:=hb3.out.trans (hb34.mono hb3.out.size);have hle:=hb3.out.size;clear m3 hgv3 hM3 hZ3 hT3 hD3 hb3 hb34;have t4:w4.cell? ⟨w1.heap.size,4,none⟩=some Z0:=hT4.cell 4;have t4f:=hT4.frozen 4;have hT5:=hT4.set_ 4 (.slice (some ⟨ib,io,none⟩) 1 ic);have t5:(w4.setCell ⟨w1.heap.size,4,none⟩ (.slice (some ⟨ib,io,none⟩) 1 ic)).cell? ⟨w1.heap.size,5,none⟩=some (.string ⟨#[]⟩):=hT5.cell 5;have t5f:=hT5.frozen 5;have hT6:=hT5.set_ 5 (.string ⟨ps.toArray⟩)
 change Blk _ _ 25 [.int .i64 2,.int .i64 ses,.string ⟨n.toArray⟩,Z0,.slice (some ⟨ib,io,none⟩) 1 ic,.string ⟨ps.toArray⟩,.int .i64 0] at hT6
 have hX6:Touch [w1.heap.size] w4 ((w4.setCell ⟨w1.heap.size,4,none⟩ (.slice (some ⟨ib,io,none⟩) 1 ic)).setCell ⟨w1.heap.size,5,none⟩ (.string ⟨ps.toArray⟩)):=Gd w4 w1.heap.size 0 4 5 _ _;clear hT4 hT5;replace hX6:=iD hX6;replace hZ4:=iD hZ4;replace hD4:=iD hD4;replace hb4:=iD hb4;go_upto_region 11 with fail;generalize lG (lG w4 _ _) _ _=w6 at hT6 hX6 ⊢;have hZ6:=hZ4.out.touch hX6.out (by simp;omega);have hb6:=hb4.out.trans (hX6.out.below hb4.out.size (fun i hi=>by simp at hi;omega));have hD6:=hD4.out.touch hX6.out (by simp;omega);clear hX6 hZ4 hD4 hb4 t4 t4f t5 t5f;obtain⟨TL,hTL⟩:∃ TL:List Value,TL=[.int .i64 2,.int .i64 ses,.string ⟨n.toArray⟩,Z0,.slice (some ⟨ib,io,none⟩) 1 ic,.string ⟨ps.toArray⟩,.int .i64 0]:=⟨_,rfl⟩;have hsz:(lD.info? 25).map (·.size)=some TL.length:=by rw[hTL];exact Xf Xr Z0 Z0
 have hone:∀ v ∈ TL,v.oneCell'=true:=by rw[hTL];simp[lI]
 have hlen:Zk.length=TL.length:=by rw[hTL];rfl
 rw[<-hTL] at hT6;have hTS:Touch [w.heap.size+1] w6 (w6.setRow (w.heap.size+1) TL.toArray):=Touch.setRow (by simp) _;have hfin:Hid (∃ ib' io' ic',(.returned (.agg TL.toArray):Ending)=.returned (.agg #[.int .i64 2,.int .i64 ses,.string ⟨n.toArray⟩,Z0,.slice (some ⟨ib',io',none⟩) 1 ic',.string ⟨ps.toArray⟩,.int .i64 0])/\Xn (w6.setRow (w.heap.size+1) TL.toArray) ib' io' ds/\1<=ic'/\Below w.heap.size w (w6.setRow (w.heap.size+1) TL.toArray)) :=
  iD ⟨ib,io,ic,by rw[hTL],hD6.touch hTS (by simp;omega),hic,hb6.trans (hTS.below hb6.size (by simp))⟩
 replace hTL:=iD hTL;replace hT6:=iD hT6;replace hsz:=iD hsz;replace hone:=iD hone;replace hlen:=iD hlen;replace hZ6:=iD hZ6;clear hD6 hb6 hTS;go_wp2_with (first
  | (refine Zy rfl 25 (.tmp 5) rfl w1.heap.size rfl 25 TL hT6.out _ underlying25 rfl hsz.out ?_;go_frame)
  | (refine Zd rfl 25 (.tmp 4) (.tmp 40) rfl (w.heap.size+1) TL rfl rfl 25 Zk hZ6.out hlen.out hsz.out hone.out ?_;go_frame)
  | (exact Qe rfl (w.heap.size+1) 25 TL _ rfl (hZ6.out.setRow_same TL) underlying25 rfl hsz.out rfl hfin.out)
  | fail)
end
section
set_option maxRecDepth 100000
set_option maxHeartbeats 16000000
open Go.Lib renaming hid → iD
open Go.Proofs.Tryz
open Go.RowKit
theorem Zmk{n ds:Str}(hn:n ≠ []):Yb (Xm n ds) []=[]:=by
 simp[Yb,Xm,hn]
theorem Zml(w:World):(Instr.buildSlice 117 2 #[(0,.agg #[.int .i64 1,.func (.func 52) #[] #[]]),(1,.agg #[.int .i64 3,.func (.func 53) #[] #[]])]).run lD w=.ok (.slice (some ⟨w.heap.size,0,none⟩) 2 2) (w.alloc (.cells #[.int .i64 1,.func (.func 52) #[] #[],.int .i64 3,.func (.func 53) #[] #[]] 116)):=by kernel_rfl
theorem srvSz:(lD.info? 116).map (·.size)=some 2:=by kernel_rfl
theorem Zb3(k:Int)(f:FuncId)(w:World):(Instr.build 116 #[(0,.int .i64 k),(1,.func (.func f) #[] #[])]).run lD w=.ok (.agg #[.int .i64 k,.func (.func f) #[] #[]]) w:=by kernel_rfl
theorem Zb4(n ra a t:Str)(hn:Z6 n=true)(ha:Z6 a=true)(ht:t.length<=1000)(ses:Int)(hs:0<=ses)(hs9:ses<9223372036854775807)(r:Nat)(w:World)(h:Vi n ra a t r w)(hK:Zm w) :
  Calls lD 16 #[.pointer (some ⟨r,0,none⟩),.string ⟨(Zs (Xo ses n)).toArray⟩] w fun e w'=>e=.returned (.tuple #[.string ⟨(Zs (Xg ses n (idT a t) (Xb (Yk (Ym a t))))).toArray⟩,.bool true])/\Below w.heap.size w w':=by
 have h9:(128:Int) ^ 9=9223372036854775808:=by decide
 have hm0:=Zay hs hn;have hmf:=Zaz (ses:=ses) (name:=n) (by rw[h9];omega);have hrm:=Z4n hm0 hmf;have hln:=Z4o hrm;have hrd:=Z2t (Zs (Xo ses n)) (by omega) w hK;have hop:=iD (fun W (hb:Below w.heap.size w W)=>by
  obtain⟨lb,lc,rest,by',V,v,g,rb,br,d,h1,h2,h3,h4,h5,h6⟩:=h.below hb;exact Zax r _ by' rb g ra br d (.bool false) v _ _ W h1 h5 h6 (Z0n hn (Q4 a t)) (by simp[J4,Xm]) (Zmk (by rintro rfl;simp[Z6] at hn)))
 have htd:=iD (fun W (hb:Below w.heap.size w W)=>Zmj n ra a t hn ha ht ses Z0 rfl ⟨_,_,_,rfl⟩ r W (h.below hb) (keys_below hK hb));have hpl:(Xb (Yk (Ym a t))).length<=1048576:=by
  have h1:=Gl a t ha ht;have h2:=(Z5a (xs:=Yk (Ym a t)) (by omega)).1;simp only[Xb,lR,J2];omega
 obtain⟨ps,hps⟩:∃ ps,ps=Xb (Yk (Ym a t)):=⟨_,rfl⟩;have hdl:=Q4 a t;obtain⟨ds,hds⟩:∃ ds,ds=idT a t:=⟨_,rfl⟩;rw[<-hps] at hpl htd ⊢;rw[<-hds] at hdl htd ⊢;have hm1:=Zb1 (ds:=ds) hs hn hpl;obtain⟨ws,hws⟩:∃ ws,ws=Zs (Xg ses n ds ps):=⟨_,rfl⟩;rw[<-hws];have hnl:=Um hn;have hwr:=iD (fun W ib io ic (hb:Below w.heap.size w W) (hD:Xn W ib io ds) (hic:1<=ic)=>by
  have:=Z5b (Xg ses n ds ps) Z0 (.slice (some ⟨ib,io,none⟩) 1 ic) (fun _=>True) W (by show (Lit.int .i64 2).wf=true;decide) Ze.nil (Zmi hdl hD hic) (by simp only[Xg];omega) (fun _=>Zb2 (by rw[h9];omega) hdl) (keys_below hK hb);rw[hm1,if_pos rfl,<-hws] at this;exact this)
 obtain⟨aw,has⟩:∃ aw,aw=Zs (Xo ses n):=⟨_,rfl⟩;rw[<-has] at hrd hrm hln ⊢;have hrd2:Calls lD 19 #[.string ⟨aw.toArray⟩] w fun e w'=>e=.returned (.tuple #[.agg (Zx (Xo ses n) Z0 Z0).toArray,.int .i64 0])/\Below w.heap.size w w':=hrd.mono (by
  rintro e w' ⟨hb,⟨m,o,nn,hm,rfl,_,_,ho,hn⟩ | ⟨hm,_⟩⟩
  ·rw[hrm] at hm;cases hm
   rw[ho rfl,hn rfl];exact⟨rfl,hb⟩
  ·rw[hrm] at hm;cases hm)
 unfold Zx Xo Xg at *;dsimp only at *;replace hrd2:=iD hrd2;replace has:=iD has;replace hws:=iD hws;replace hps:=iD hps;replace hds:=iD hds;clear hrd hrm hln hm0 hmf h9 hm1 hpl h hK hdl hnl;go_enter func16,ntmps16;go_wp2_with fail;refine hrd2.out.mono ?_;rintro e w1 ⟨rfl,hb1⟩;go_upto_region 2 with (first
  | (refine Zd rfl 25 (.tmp 6) (.tmp 15) rfl w1.heap.size [.int .i64 1,.int .i64 ses,.string ⟨n.toArray⟩,.slice none 0 0,.slice none 0 0,.string ⟨#[]⟩,.int .i64 0] rfl rfl 25 Zk (Blk.new_at rfl) rfl (Xf Xr Z0 Z0) (by simp[lI]) ?_;go_frame)
  | fail)
 generalize hW2:lM _ _ _=w2;have hM2:Blk w2 w1.heap.size 25 [.int .i64 1,.int .i64 ses,.string ⟨n.toArray⟩,Z0,Z0,.string ⟨#[]⟩,.int .i64 0]:=by rw[<-hW2];exact (Blk.new_at (cs:=Zk) rfl).setRow_same _
 have hb12:Below w1.heap.size w1 w2:=by rw[<-hW2];exact below_setRow bL (lB _) _
 have hb2:=hb1.trans (hb12.mono hb1.size);clear hW2 hb1 hb12 hrd2;replace hM2:=iD hM2;replace hb2:=iD hb2;go_wp2_with fail;refine (hop.out w2 hb2.out).mono ?_;rintro e w3 ⟨rfl,hb23⟩;have hM3:=hM2.out.below hb23 hM2.out.lt;have hb3:=hb2.out.trans (hb23.mono hb2.out.size);clear hM2 hb2 hb23 hop;replace hM3:=iD hM3;replace hb3:=iD hb3;go_upto_region 4 with fail;refine wp_region_lit ?_;refine J5 rfl (.agg #[.int .i64 1,.func (.func 52) #[] #[]]) (exec_build2 116 0 1 (.const (.int .i64 1)) (.func 52) rfl (.int .i64 1) (.func (.func 52) #[] #[]) _ rfl rfl (Zb3 _ _ _)) ?_;go_frame;refine J5 rfl (.agg #[.int .i64 3,.func (.func 53) #[] #[]]) (exec_build2 116 0 1 (.const (.int .i64 3)) (.func 53) rfl (.int .i64 3) (.func (.func 53) #[] #[]) _ rfl rfl (Zb3 _ _ _)) ?_;go_frame;refine J5 rfl _ (Z5g 117 (.tmp 24) (.tmp 25) rfl _ _ _ rfl rfl (Zml w3)) ?_;go_frame;generalize hW4:lK w3 _=w4;have hV4:Blk w4 w3.heap.size 116 [.int .i64 1,.func (.func 52) #[] #[],.int .i64 3,.func (.func 53) #[] #[]]:=by rw[<-hW4];exact Blk.new_at rfl
 have hb34:Below w3.heap.size w3 w4:=by rw[<-hW4];exact bL
 have hM4:=hM3.out.below hb34 hM3.out.lt;have hb4:=hb3.out.trans (hb34.mono hb3.out.size);clear hW4 hM3 hb3 hb34;have v0:w4.cell? ⟨w3.heap.size,0,none⟩=some (.int .i64 1):=hV4.cell 0;have v1:w4.cell? ⟨w3.heap.size,1,none⟩=some (.func (.func 52) #[] #[]):=hV4.cell 1;replace hM4:=iD hM4;replace hb4:=iD hb4;replace hV4:=iD hV4;go_wp2_with fail;refine wp_loop_rounds 1 ?_;rw[rounds_succ];have hsz:=srvSz;go_upto_region 7 with (first
  | (refine Xj rfl 116 (.tmp 30) rfl w3.heap.size 0 rfl 116 [.int .i64 1,.func (.func 52) #[] #[],.int .i64 3,.func (.func 53) #[] #[]] [.int .i64 1,.func (.func 52) #[] #[]] [.int .i64 3,.func (.func 53) #[] #[]] hV4.out rfl _ underlying116 rfl hsz ?_;go_frame)
  | (refine Zd rfl 116 (.tmp 9) (.tmp 31) rfl w4.heap.size [.int .i64 1,.func (.func 52) #[] #[]] rfl rfl 116 [.int .i64 0,.nilFunc] (Blk.new_at rfl) rfl hsz (by simp[lI]) ?_;go_frame)
  | fail)
 generalize hW5:lM _ _ _=w5;have hX5:Blk w5 w4.heap.size 116 [.int .i64 1,.func (.func 52) #[] #[]]:=by rw[<-hW5];exact (Blk.new_at (cs:=[.int .i64 0,.nilFunc]) rfl).setRow_same _
 have hb45:Below w4.heap.size w4 w5:=by rw[<-hW5];exact below_setRow bL (lB _) _
 have hM5:=hM4.out.below hb45 hM4.out.lt;have hb5:=hb4.out.trans (hb45.mono hb4.out.size);clear hW5 hM4 hV4 hb4 hb45 v0 v1;have x0:w5.cell? ⟨w4.heap.size,0,none⟩=some (.int .i64 1):=hX5.cell 0;have x1:w5.cell? ⟨w4.heap.size,1,none⟩=some (.func (.func 52) #[] #[]):=hX5.cell 1;have m0:w5.cell? ⟨w1.heap.size,0,none⟩=some (.int .i64 1):=hM5.cell 0;replace hM5:=iD hM5;replace hb5:=iD hb5;clear hX5;go_wp2_with (first
  | (refine Zy rfl 25 (.tmp 6) rfl w1.heap.size rfl 25 [.int .i64 1,.int .i64 ses,.string ⟨n.toArray⟩,Z0,Z0,.string ⟨#[]⟩,.int .i64 0] hM5.out _ underlying25 rfl (Xf Xr Z0 Z0) ?_;go_frame)
  | fail)
 refine (htd.out w5 hb5.out).mono ?_;rintro e w6 ⟨ib,io,ic,rfl,hD6,hic,hb56⟩;have hb6:=hb5.out.trans (hb56.mono hb5.out.size);have hw6:=iD (hwr.out w6 ib io ic hb6 hD6 hic);clear htd hwr hM5 hb5 hD6 hb56 x0 x1 m0;replace hb6:=iD hb6;go_wp2_with fail;refine hw6.out.mono ?_;rintro e w7 ⟨rfl,hb67⟩;have hb7:=iD (hb6.out.trans (hb67.mono hb6.out.size));clear hw6 hb6 hb67;go_wp2_with fail;go_returns;exact⟨rfl,hb7.out⟩
end
section
set_option maxRecDepth 100000
set_option maxHeartbeats 16000000
open Go.Lib renaming hid → iD
open Go.Proofs.Tryz
open Go.RowKit
theorem Zmm(cb:Nat)(ses:Int)(name say:Str)(kind:Int)(take fresh:Value)(ended:Bool)(e0:Int)(ra a t:Str)(hnl:Z6 name=true)(hn:Z6 (64 :: name)=true)(ha:Z6 a=true)(ht:t.length<=1000)(h0:t ≠ []){w0:World}{base:Nat->Prop}{g rb:Nat}{S:DS}{v:Value}{w:World}(h:Ref w0 base rb g v S [] w)(hS:Live S none)(hroom:1000000<=S.room)(r by_:Nat)(hR:Blk w r 47 (Y1 Z0 by_ rb g ra false))(hr:base r)
  (hky:∀ W,Stay base w0 W->Zm W) (hC:Blk w cb 34 (K0 r ses name say kind take fresh ended e0)) (hb hc:Nat) (ri:List Value) (hH:Blk w hb 59 ((idT a t).map B++ri)) (hhc:1<=hc) :
  Calls lD 55 #[.pointer (some ⟨cb,0,none⟩),.agg (Zx (Xg ses name (idT a t) (Xb (Yk (Ym a t)))) Z0 (.slice (some ⟨hb,0,none⟩) 1 hc)).toArray] w fun e w'=>e=.returned (.int .i64 0)/\KeepsR w w'/\OneSt w0 base w.heap.size g rb r ra a t (64 :: name) w':=by
 obtain⟨ps,hps⟩:∃ ps,ps=Xb (Yk (Ym a t)):=⟨_,rfl⟩;have htu:=iD (fun W (hbl:Below w.heap.size w W)=>Zmh cb ses name say kind take fresh ended e0 ra a t hnl hn ha ht h0 ps hps (h.below hbl) hS hroom r by_ (hR.below hbl hR.lt) hr hky (hC.below hbl hC.lt) hb hc ri (hH.below hbl hH.lt) hhc);rw[<-hps];obtain⟨ds,hds⟩:∃ ds,ds=idT a t:=⟨_,rfl⟩;rw[<-hds];replace hps:=iD hps;replace hds:=iD hds;clear h hS hR hr hC hH;unfold Zx Xg;dsimp only;go_enter func55,ntmps55;go_upto_region 1 with fail;generalize hW1:lK w _=w1;have hM1:Blk w1 w.heap.size 25 [.int .i64 2,.int .i64 ses,.string ⟨name.toArray⟩,Z0,.slice (some ⟨hb,0,none⟩) 1 hc,.string ⟨ps.toArray⟩,.int .i64 0]:=by rw[<-hW1];exact Blk.new_at rfl
 have hb1:Below w.heap.size w w1:=by rw[<-hW1];exact bL
 clear hW1;have m5:w1.cell? ⟨w.heap.size,5,none⟩=some (.string ⟨ps.toArray⟩):=hM1.cell 5;have m4:w1.cell? ⟨w.heap.size,4,none⟩=some (.slice (some ⟨hb,0,none⟩) 1 hc):=hM1.cell 4;have htu1:=iD (htu.out w1 hb1);clear hM1 htu;replace hb1:=iD hb1;go_wp2_with fail;refine htu1.out.mono ?_;rintro e w2 ⟨rfl,hk2,hO2⟩;replace hk2:=iD hk2;replace hO2:=iD hO2;clear htu1 m5 m4;go_wp2_with fail;go_returns;exact⟨rfl,(KeepsR.below hb1.out).trans hk2.out,hO2.out.lower hb1.out.size⟩
theorem Zb5(cb:Nat)(ses:Int)(hs:0<=ses)(hs9:ses<9223372036854775807)(name say:Str)(ra a t:Str)(hnl:Z6 name=true)(hn:Z6 (64 :: name)=true)(ha:Z6 a=true)(ht:t.length<=1000)(h0:t ≠ []){w0:World}{base:Nat->Prop}{g rb:Nat}{S:DS}{v:Value}{w:World}(h:Ref w0 base rb g v S [] w)(hS:Live S none)(hroom:1000000<=S.room)(r by_:Nat)(hR:Blk w r 47 (Y1 Z0 by_ rb g ra false))(hr:base r)
  (hky:∀ W,Stay base w0 W->Zm W) (hcb:base cb) (hC:Blk w cb 34 (K0 r ses name say 2 (.func (.func 55) #[.pointer (some ⟨cb,0,none⟩)] #[]) Z0 false 0)) :
  Calls lD 15 #[.pointer (some ⟨cb,0,none⟩),.string ⟨(Zs (Xg ses name (idT a t) (Xb (Yk (Ym a t))))).toArray⟩] w fun e w'=>e=.returned (.bool true)/\OneSt w0 base w.heap.size g rb r ra a t (64 :: name) w'/\Blk w' cb 34 (K0 r ses name say 2 (.func (.func 55) #[.pointer (some ⟨cb,0,none⟩)] #[]) Z0 true 0):=by
 have h9:(128:Int) ^ 9=9223372036854775808:=by decide
 have hK:Zm w:=hky w h.bel;have hpl:(Xb (Yk (Ym a t))).length<=1048576:=by
  have h1:=Gl a t ha ht;have h2:=(Z5a (xs:=Yk (Ym a t)) (by omega)).1;simp only[Xb,lR,J2];omega
 have hdl:=Q4 a t;have hm1:=Zb1 (ds:=idT a t) hs hnl hpl;have hrm:=Z4n hm1 (Zb2 (by rw[h9];omega) hdl);have hln:=Z4o hrm;have hrd:=Z2t (Zs (Xg ses name (idT a t) (Xb (Yk (Ym a t))))) (by omega) w hK;have hmd:=iD (Z5c cb r ses name say 2 (.func (.func 55) #[.pointer (some ⟨cb,0,none⟩)] #[]) Z0 false 0 w hC);obtain⟨aw,has⟩:∃ aw,aw=Zs (Xg ses name (idT a t) (Xb (Yk (Ym a t)))):=⟨_,rfl⟩;rw[<-has] at hrd hrm hln ⊢;have hrd2:Calls lD 19 #[.string ⟨aw.toArray⟩] w fun e w'=>∃ hb hc ri,e=.returned (.tuple #[.agg (Zx (Xg ses name (idT a t) (Xb (Yk (Ym a t)))) Z0 (.slice (some ⟨hb,0,none⟩) 1 hc)).toArray,.int .i64 0])/\Blk w' hb 59 ((idT a t).map B++ri)/\1<=hc/\Below w.heap.size w w':=hrd.mono (by
  rintro e w' ⟨hb,⟨m,o,nn,hm,rfl,ho,hn,ho2,_⟩ | ⟨hm,_⟩⟩
  ·rw[hrm] at hm;cases hm
   obtain⟨A,c,rfl,hcc,_⟩:=Za hn;obtain⟨b,rr,rfl,_,hB,hc⟩:=Uo hn (by simp[Xg]);rw[ho2 rfl];refine⟨b,c,rr,rfl,?_,hc,hb⟩;simpa[Xg,Zv] using hB
  ·rw[hrm] at hm;cases hm)
 obtain⟨ps,hps⟩:∃ ps,ps=Xb (Yk (Ym a t)):=⟨_,rfl⟩;have hft:=iD (fun (e0:Int) (ended:Bool) W (hRW:Ref w0 base rb g v S [] W) (hBW:Blk W r 47 (Y1 Z0 by_ rb g ra false)) (hCW:Blk W cb 34 (K0 r ses name say 2 (.func (.func 55) #[.pointer (some ⟨cb,0,none⟩)] #[]) Z0 ended e0)) hb hc ri hH hhc=>Zmm cb ses name say 2 _ Z0 ended e0 ra a t hnl hn ha ht h0 hRW hS hroom r by_ hBW hr hky hCW hb hc ri hH hhc);have hDk:∃ L,J3 w L g S/\∀ i ∈ L,base i:=h.disk;rw[<-hps] at hrd2 hft;obtain⟨ds,hds⟩:∃ ds,ds=idT a t:=⟨_,rfl⟩;rw[<-hds] at hrd2 hft;replace hps:=iD hps;replace hds:=iD hds;replace has:=iD has;replace hrd2:=iD hrd2;clear hrd hrm hln hm1 hpl h9 hK hky hdl;have c7:w.cell? ⟨cb,7,none⟩=some (.bool false):=hC.cell 7;replace h:=iD h;replace hR:=iD hR;replace hC:=iD hC;go_enter func15,ntmps15;go_wp2_with fail;refine hmd.out.mono ?_;rintro e wz ⟨rfl,hwz⟩;rw[hwz];clear hwz wz hmd;go_wp2_with fail;refine hrd2.out.mono ?_;rintro e w1 ⟨hb,hc,ri,rfl,hH1,hhc,hb1⟩;unfold Zx Xg;dsimp only;obtain⟨ML,hML⟩:∃ ML:List Value,ML=[.int .i64 2,.int .i64 ses,.string ⟨name.toArray⟩,Z0,.slice (some ⟨hb,0,none⟩) 1 hc,.string ⟨ps.toArray⟩,.int .i64 0]:=⟨_,rfl⟩;go_upto_region 4 with (first
  | (refine Zd rfl 25 (.tmp 5) (.tmp 19) rfl w1.heap.size [.int .i64 2,.int .i64 ses,.string ⟨name.toArray⟩,Z0,.slice (some ⟨hb,0,none⟩) 1 hc,.string ⟨ps.toArray⟩,.int .i64 0] rfl rfl 25 Zk (Blk.new_at rfl) rfl (Xf Xr Z0 Z0) (by simp[lI]) ?_;go_frame)
  | fail)
 generalize hW2:lM _ _ _=w2;have hM2:Blk w2 w1.heap.size 25 ML:=by rw[<-hW2,hML];exact (Blk.new_at (cs:=Zk) rfl).setRow_same _
 have hb12:Below w1.heap.size w1 w2:=by rw[<-hW2];exact below_setRow bL (lB _) _
 have hb2:=hb1.trans (hb12.mono hb1.size);have hH2:=hH1.below hb12 hH1.lt;have h2:=h.out.below hb2;have hR2:=hR.out.below hb2 hR.out.lt;have hC2:=hC.out.below hb2 hC.out.lt;have hle:=hb1.size;have hcl:=hC.out.lt;clear hW2 hH1 h hR hC hb1 hb12 hrd2 c7;obtain⟨take,htake⟩:∃ take,take=(.func (.func 55) #[.pointer (some ⟨cb,0,none⟩)] #[]:Value):=⟨_,rfl⟩;have x0:w2.cell? ⟨w1.heap.size,0,none⟩=some (.int .i64 2):=(hM2.cell 0).trans (by rw[hML];rfl);have x1:w2.cell? ⟨w1.heap.size,1,none⟩=some (.int .i64 ses):=(hM2.cell 1).trans (by rw[hML];rfl);have x2:w2.cell? ⟨w1.heap.size,2,none⟩=some (.string ⟨name.toArray⟩):=(hM2.cell 2).trans (by rw[hML];rfl);have y4:w2.cell? ⟨cb,4,none⟩=some (.int .i64 2):=hC2.cell 4;have y1:w2.cell? ⟨cb,1,none⟩=some (.int .i64 ses):=hC2.cell 1;have y2:w2.cell? ⟨cb,2,none⟩=some (.string ⟨name.toArray⟩):=hC2.cell 2;replace hM2:=iD hM2;replace hH2:=iD hH2;replace h2:=iD h2;replace hR2:=iD hR2;replace hC2:=iD hC2;replace hb2:=iD hb2;replace hML:=iD hML;refine Y7 28 (by kernel_rfl) (by kernel_rfl) ?_;simp only[List.take_succ_cons,List.take_zero,List.drop_succ_cons,lY];repeat (first | go_big_quiet_step (fail))
 refine lA ?_;rintro _ ⟨nq,rfl⟩;have hbd:Below w2.heap.size w2 (w2.drewN nq):=(Touch.drewN (L:=[]) nq).below (lB _) (fun _ hi=>by cases hi);have hM3:=hM2.out.below hbd hM2.out.lt;have hH3:=hH2.out.below hbd hH2.out.lt;have h3:=h2.out.below hbd;have hR3:=hR2.out.below hbd hR2.out.lt;have hC3:=hC2.out.below hbd hC2.out.lt;have hb3:=hb2.out.trans (hbd.mono hb2.out.size);clear hM2 hH2 h2 hR2 hC2 hb2 hbd x0 x1 x2 y4 y1 y2;generalize w2.drewN nq=w3 at hM3 hH3 h3 hR3 hC3 hb3 ⊢;replace hM3:=iD hM3;replace hH3:=iD hH3;replace h3:=iD h3;replace hR3:=iD hR3;replace hC3:=iD hC3;replace hb3:=iD hb3;go_upto_region 6 with fail;obtain⟨PS,hPS⟩:∃ PS:World->Prop,∀ y,PS y ↔ Blk y w1.heap.size 25 ML:=⟨_,fun _=>lL⟩;have s6:∀ y:Cls PS,y.1.cell? ⟨w1.heap.size,6,none⟩=some (.int .i64 0):=fun y=>(((hPS _).1 y.2).cell 6).trans (by rw[hML.out];rfl);have s4:PS w3.drew:=(hPS _).2 hM3.out.drew;haveI : Nonempty (Cls PS):=⟨⟨_,s4⟩⟩;have hd3:Below w3.heap.size w3 w3.drew:=(lN _ _).drew;have hCd:=hC3.out.below hd3 hC3.out.lt;have k7:w3.drew.cell? ⟨cb,7,none⟩=some (.bool false):=hCd.cell 7;have k7f:=hCd.frozen 7;have hT7:Touch [cb] w3 (w3.drew.setCell ⟨cb,7,none⟩ (.bool true)):=(Touch.ofBelow hd3).trans (Touch.setCell _ (by simp)) (fun i hi=>.inl hi);have hC7:=hCd.set_ 7 (.bool true);have s5:PS (w3.drew.setCell ⟨cb,7,none⟩ (.bool true)):=(hPS _).2 (hM3.out.touch hT7 (by simp;omega));replace hPS:=iD hPS;refine Yh (fun w'=>∃ y:Cls PS,w'=y.1) [([0,1,2,3,4,5],6)] [] 7 [8,9] (by kernel_rfl) (by kernel_rfl) (fun _ d _ _ _ h=>by cases d <;> exact h) ⟨⟨_,s4⟩,rfl⟩ ?_;simp only[Y4,Z7,lH,lJ,Zo,Zn];repeat (first | go_big_quiet_step (fail))
 refine lA ?_;clear s6 s4;intro K hK;go_simp
 change K _ ((w3.setCell ⟨cb,7,none⟩ (.bool true)).drew)
 have s5':PS ((w3.setCell ⟨cb,7,none⟩ (.bool true)).drew):=s5;have hC7':Blk ((w3.setCell ⟨cb,7,none⟩ (.bool true)).drew) cb 34 (K0 r ses name say 2 take Z0 true 0):=by rw[htake];exact hC7
 have hT7':Touch [cb] w3 ((w3.setCell ⟨cb,7,none⟩ (.bool true)).drew):=hT7;generalize World.drew (lG w3 _ _)=w7 at s5' hC7' hT7' ⊢;refine hK _ _ ⟨⟨_,s5'⟩,rfl⟩ ?_;clear hK s5 s5' hC7 hT7 k7 k7f hCd hd3 hPS;refine lA ?_;have k8:w7.cell? ⟨cb,8,none⟩=some (.int .i64 0):=hC7'.cell 8;have k8f:=hC7'.frozen 8;have hC8:=hC7'.set_ 8 (.int .i64 0);have hT8:=hT7'.trans (Touch.setCell (L:=[cb]) (w:=w7) (g:=cb) (i:=8) (.int .i64 0) (by simp)) (fun i hi=>.inl hi);have x6:(w7.setCell ⟨cb,8,none⟩ (.int .i64 0)).cell? ⟨w1.heap.size,6,none⟩=some (.int .i64 0):=((hM3.out.touch hT8 (by simp;omega)).cell 6).trans (by rw[hML.out];rfl);clear hC7' hT7';replace hC8:=iD hC8;replace hT8:=iD hT8;replace htake:=iD htake;go_upto_region 8 with fail;generalize lG w7 _ _=w8 at hC8 hT8 x6 ⊢;clear k8 k8f x6;have hM8:=hM3.out.touch hT8.out (by simp;omega);have hH8:=hH3.out.touch hT8.out (fun hm=>by
  obtain rfl:hb=cb:=by simpa using hm
  exact hH3.out.ne_ hC3.out (by decide) rfl)
 have hR8:=hR3.out.touch hT8.out (fun hm=>by
  obtain rfl:r=cb:=by simpa using hm
  exact hR3.out.ne_ hC3.out (by decide) rfl)
 have h8:Ref w0 base rb g v S [] w8:=by
  obtain⟨L,hD,hL⟩:=h3.out.disk;refine h3.out.touched hD hL hT8.out (by simpa using hcb) (fun i hi=>by
   have:=hD.tag hC3.out (by decide) (by decide);simp only[List.mem_singleton];rintro rfl;exact this hi) (fun i hi t cs hB=>?_)
  obtain rfl:i=cb:=by simpa using hi
  have:=hB.unique hC3.out;subst this;exact⟨by decide,by decide,by decide,by decide⟩
 have hz8:w.heap.size<=w8.heap.size:=lE hb3.out.size hT8.out.size;have hC8':Blk w8 cb 34 (K0 r ses name say 2 (.func (.func 55) #[.pointer (some ⟨cb,0,none⟩)] #[]) Z0 true 0):=by
  rw[<-htake.out];exact hC8.out
 clear hC8 hT8 hH3 hR3 h3 hC3 hb3 hM3;have hdw:Below w8.heap.size w8 w8.drew:=(lN _ _).drew;have hMd:=hM8.below hdw hM8.lt;have hHd:=hH8.below hdw hH8.lt;have hRd:=hR8.below hdw hR8.lt;have hCd:=hC8'.below hdw hC8'.lt;have hd:=h8.below hdw;have hfc:=hft.out 0 true w8.drew hd hRd hCd hb hc ri hHd hhc;clear hft hM8 hH8 hR8 hC8' h8 hHd hRd hd;have hfc':Calls lD 55 #[.pointer (some ⟨cb,0,none⟩),.agg ML.toArray] w8.drew fun e w'=>e=.returned (.int .i64 0)/\KeepsR w8.drew w'/\OneSt w0 base w8.drew.heap.size g rb r ra a t (64 :: name) w':=by
  rw[hML.out];exact hfc
 clear hfc;obtain⟨PS,hPS⟩:∃ PS:World->Prop,∀ y,PS y ↔ (Blk y w1.heap.size 25 ML/\Blk y cb 34 (K0 r ses name say 2 (.func (.func 55) #[.pointer (some ⟨cb,0,none⟩)] #[]) Z0 true 0)):=⟨_,fun _=>lL⟩;have s5:∀ y:Cls PS,y.1.cell? ⟨cb,5,none⟩=some (.func (.func 55) #[.pointer (some ⟨cb,0,none⟩)] #[]):=fun y=>((hPS _).1 y.2).2.cell 5;have sM:Hid (∀ w',(∃ y:Cls PS,w'=y.1)->Blk w' w1.heap.size 25 ML):=iD (by rintro _ ⟨y,rfl⟩;exact ((hPS _).1 y.2).1);have s4:PS w8.drew:=(hPS _).2 ⟨hMd,hCd⟩;haveI : Nonempty (Cls PS):=⟨⟨_,s4⟩⟩;have hms:(lD.info? 25).map (·.size)=some ML.length:=by rw[hML.out];exact Xf Xr Z0 Z0
 replace hPS:=iD hPS;replace hfc':=iD hfc';replace hMd:=iD hMd;replace hCd:=iD hCd;replace hms:=iD hms;refine Yh (fun w'=>∃ y:Cls PS,w'=y.1) [([0,1,2,3,4,5],6)] [] 7 [8,9] (by kernel_rfl) (by kernel_rfl) (fun _ d _ _ _ h=>by cases d <;> exact h) ⟨⟨_,s4⟩,rfl⟩ ?_;simp only[Y4,Z7,lH,lJ,Zo,Zn];repeat (first
  | (refine Yq 25 (.tmp 5) rfl rfl w1.heap.size 0 rfl 25 ML ML [] sM.out (by simp) _ underlying25 rfl hms.out ?_;go_frame)
  | go_big_quiet_step (fail))
 refine lA ?_;clear s5 sM s4;intro K hK;go_simp;refine hfc'.out.mono ?_;rintro e w9 ⟨rfl,hk9,hO9⟩;have hM9:=hk9.blk _ _ _ hMd.out (by decide) (by decide) (by decide) (by decide);have hC9:=hk9.blk _ _ _ hCd.out (by decide) (by decide) (by decide) (by decide);refine hK _ _ ⟨⟨_,(hPS.out _).2 ⟨hM9,hC9⟩⟩,rfl⟩ ?_;clear hK hPS;refine lA ?_;have k8:w9.cell? ⟨cb,8,none⟩=some (.int .i64 0):=hC9.cell 8;have k8f:=hC9.frozen 8;have hid9:=Z5i (i:=8) (v:=.int .i64 0) hC9 rfl;have hO9':=hO9.lower hz8;replace hO9':=iD hO9';replace hC9:=iD hC9;clear hO9 hk9 hM9 hMd hCd hfc';go_wp2_with fail;go_returns;exact⟨rfl,hO9'.out,hC9.out⟩
end
section
set_option maxRecDepth 100000
set_option maxHeartbeats 16000000
open Go.Lib renaming hid → iD
open Go.Proofs.Tryz
open Go.RowKit
abbrev J7:Str:=[97,110,110]
abbrev boS:Str:=[98,111]
abbrev Xh:Str:=[109,97,105,110]
abbrev hiS:Str:=[104,105]
theorem Zb7:(Zs (Xo 1 Xh)).length=46:=by decide +kernel
theorem Zmo:(Zs (Xo 1 Xh)).take 10=[82,77,49,1,1,4,109,97,105,110]:=by decide +kernel
theorem Z2w{base:Nat->Prop}{w0 W:World}{n:Nat}(h:Stay base w0 W)(hb:∀ i,base i->n<=i)(hn:n<=w0.heap.size):Below n w0 W:=⟨h.os,h.tape,h.output,h.size,fun i hi=>h.block i (by omega) (fun hbm=>by have:=hb i hbm;omega)⟩
theorem Vi.text{n ra a t:Str}{r:Nat}{w:World}(h:Vi n ra a t r w)(hn:Z6 n=true)(ha:Z6 a=true)(ht:t.length<=1000)(hK:Zm w) :
  Calls lD 27 #[.pointer (some ⟨r,0,none⟩),.string ⟨n.toArray⟩] w fun e w'=>e=.returned (.tuple #[.string ⟨t.toArray⟩,.int .i64 0])/\Below w.heap.size w w':=by
 obtain⟨lb,lc,rest,by',V,v,g,rb,br,d,h1,h2,h3,h4,h5,h6⟩:=h;obtain⟨OA,oc,rfl,_,_⟩:=h3;exact Zm0 ra n a t hn ha ht OA _ oc r lb lc rest by' rb g br d (.bool false) v _ w h1 h5 h6 h4 h2 ⟨OA,oc,rfl,‹_›,‹_›⟩ hK
theorem Zb8(w:World)(hK:Zm w):Calls lD 11 #[] w fun e w'=>e=.returned (.bool true)/\Below w.heap.size w w':=by
 have ha1:Z6 J7=true:=by decide +kernel
 have hb1':Z6 boS=true:=by decide +kernel
 have hm1:Z6 Xh=true:=by decide +kernel
 have hm2:Z6 (64 :: Xh)=true:=by decide +kernel
 have hn1:=iD (Zb6 J7 ha1 w);have hn2:=iD (fun W=>Zb6 boS hb1' W);go_enter func11,ntmps11;go_wp2_with fail;refine hn1.out.mono ?_;rintro e w1 ⟨r1,by1,rb1,v1,g1,rfl,hR1,_,hF1,hr1,_⟩;have hb01:Below w.heap.size w w1:=hF1.bel.below (lB _);clear hn1;replace hF1:=iD hF1;replace hR1:=iD hR1;go_wp2_with fail;refine (hn2.out w1).mono ?_;rintro e w2 ⟨r2,by2,rb2,v2,g2,rfl,hR2,_,hF2,hr2,_⟩;have hb12:Below w1.heap.size w1 w2:=hF2.bel.below (lB _);have hb02:=hb01.trans (hb12.mono hb01.size);have hz01:=hb01.size;obtain⟨ZA,hZA⟩:∃ ZA,ZA=Jt (w.heap.size<=·) w1.heap.size w2.heap.size:=⟨_,rfl⟩;have hA2:=hF1.out.zone hb12;rw[<-hZA] at hA2;have hRA2:=hR1.out.below hb12 hR1.out.lt;have hrA:ZA r1:=by rw[hZA];exact .inl ⟨hr1,hR1.out.lt⟩
 have hAlow:∀ i,ZA i->w.heap.size<=i:=fun i hi=>by
  rw[hZA] at hi;rcases hi with h | h
  ·exact h.1
  ·have:=hb02.size;omega
 have hAB:∀ i,i<w2.heap.size->w1.heap.size<=i->¬ ZA i:=fun i h1 h2 h=>by
  rw[hZA] at h;rcases h with h | h
  ·have:=h.2;omega
  ·omega
 have hK2:Zm w2:=keys_below hK hb02;have hcm:=Zau J7 hiS Xh hm1 ha1 (by simp) (by simp) hA2 (Live.new (by omega) (by omega)) (by simp[DS.new]) r1 by1 hRA2 hrA (fun W hs=>Z2v hK hs hb02.size hAlow hK2);unfold Z1 at hcm;replace hcm:=iD hcm;replace hF2:=iD hF2;replace hR2:=iD hR2;clear hn2 hF1 hR1 hb01 hb12 hA2 hRA2;go_wp2_with fail;refine hcm.out.mono ?_;rintro e w3 ⟨rfl,hk3,hO3⟩;have hst3:Stay ZA w2 w3:=by
  obtain⟨lb,lc,rest,by',V,v',S',_,_,_,_,h5,_⟩:=hO3.st;exact h5.bel
 obtain⟨ZB,hZB⟩:∃ ZB,ZB=Jt (w1.heap.size<=·) w2.heap.size w3.heap.size:=⟨_,rfl⟩;have hB3:=hF2.out.apart rfl hst3 hAB hk3;rw[<-hZB] at hB3;have hRB3:Blk w3 r2 47 (Y1 Z0 by2 rb2 g2 boS false):=(hst3.block r2 hR2.out.lt (hAB r2 hR2.out.lt hr2)).trans hR2.out;have hrB:ZB r2:=by rw[hZB];exact .inl ⟨hr2,hR2.out.lt⟩
 have hb23:Below w.heap.size w2 w3:=Z2w hst3 hAlow hb02.size;have hb03:Below w.heap.size w w3:=hb02.trans hb23;have hBlow:∀ i,ZB i->w.heap.size<=i:=fun i hi=>by
  rw[hZB] at hi;rcases hi with h | h
  ·have h1:=h.1;omega
  ·have:=hb03.size;omega
 have hV3:=hO3.view;have hz03:=hb03.size;have hK3:=keys_below hK hb03;clear hcm hF2 hR2 hO3 hk3 hst3 hb23 hrA hAlow hAB hK2;obtain⟨dc,hdc⟩:∃ dc,dc=(idT J7 hiS).map B:=⟨_,rfl⟩;have hdcl:dc.length=32:=by rw[hdc,lQ];rfl
 have hdz:(lD.info? 59).map (·.size)=some dc.length:=by rw[hdcl];kernel_rfl
 have hdo:∀ v ∈ dc,v.oneCell'=true:=by rw[hdc];exact Y5 _
 rw[<-hdc];replace hdc:=iD hdc;replace hdz:=iD hdz;replace hdo:=iD hdo;replace hZA:=iD hZA;replace hZB:=iD hZB;replace hB3:=iD hB3;replace hRB3:=iD hRB3;replace hV3:=iD hV3;replace hb03:=iD hb03;have hbw3:=hb03;replace hBlow:=iD hBlow;go_upto_region 6 with (first
  | (refine Zd rfl 59 (.tmp 5) (.tmp 34) rfl w3.heap.size dc rfl rfl 59 Z2 (Blk.new_at rfl) (by rw[hdcl];rfl) hdz.out hdo.out ?_;go_frame)
  | fail)
 generalize hW4:lM _ _ _=w4;have hb34:Below w3.heap.size w3 w4:=by rw[<-hW4];exact below_setRow bL (lB _) _
 have hB4:=hB3.out.below hb34;have hRB4:=hRB3.out.below hb34 hRB3.out.lt;have hV4:=hV3.out.below hb34;have hb04:=hb03.out.trans (hb34.mono hb03.out.size);have hK4:=keys_below hK hb04;have hnf:=Zb0 r2 1 Xh Z0 by2 rb2 g2 boS false _ _ v2 _ w4 hRB4 hB4.ref hB4.own.tab (by omega) (by omega) hm1 hm2 hK4;clear hW4 hb34 hB3 hRB3 hV3 hb03;obtain⟨as_,has_⟩:∃ as_,as_=Zs (Xo 1 Xh):=⟨_,rfl⟩;rw[<-has_] at hnf;have hal:=Zb7;have hah:=Zmo;rw[<-has_] at hal hah;replace hnf:=iD hnf;replace hB4:=iD hB4;replace hRB4:=iD hRB4;replace hV4:=iD hV4;replace hb04:=iD hb04;replace hah:=iD hah;go_wp2_with fail;refine hnf.out.mono ?_;rintro e w5 ⟨cb,rfl,hC5,hcb,hb45⟩;have hB5:=hB4.out.below hb45;have hRB5:=hRB4.out.below hb45 hRB4.out.lt;have hV5:=hV4.out.below hb45;have hb05:=hb04.out.trans (hb45.mono hb04.out.size);have hcbB:ZB cb:=by
  rw[hZB.out];exact .inr (by have:=hb04.out.size;have:=hB4.out.bel.size;omega)
 have hsy:=iD (Zal cb r2 1 Xh as_ 2 _ Z0 false 0 w5 hC5);clear hnf hB4 hRB4 hV4 hb04 hb45;replace hB5:=iD hB5;replace hRB5:=iD hRB5;replace hV5:=iD hV5;replace hb05:=iD hb05;replace hC5:=iD hC5;go_wp2_with fail;refine hsy.out.mono ?_;rintro e wz ⟨rfl,hwz⟩;rw[hwz];clear hwz wz hsy;have hsv:=Zb4 Xh J7 J7 hiS hm1 ha1 (by simp) 1 (by omega) (by omega) r1 w5 hV5.out (keys_below hK hb05.out);rw[<-has_] at hsv;replace hsv:=iD hsv;obtain⟨ts_,hts_⟩:∃ ts_,ts_=Zs (Xg 1 Xh (idT J7 hiS) (Xb (Yk (Ym J7 hiS)))):=⟨_,rfl⟩;rw[<-hts_] at hsv;replace has_:=iD has_;go_wp2_with fail;refine hsv.out.mono ?_;rintro e w6 ⟨rfl,hb56⟩;have hB6:=hB5.out.below hb56;have hRB6:=hRB5.out.below hb56 hRB5.out.lt;have hC6:=hC5.out.below hb56 hC5.out.lt;have hb06:=hb05.out.trans (hb56.mono hb05.out.size);have hhr:=Zb5 cb 1 (by omega) (by omega) Xh as_ boS J7 hiS hm1 hm2 ha1 (by simp) (by simp) hB6 (Live.new (by omega) (by omega)) (by simp[DS.new]) r2 by2 hRB6 hrB (fun W hs=>Z2v hK hs hz03 hBlow.out hK3) hcbB hC6;rw[<-hts_] at hhr;replace hhr:=iD hhr;replace hts_:=iD hts_;replace hb06:=iD hb06;clear hsv hB5 hRB5 hV5 hb05 hC5 hb56 hB6 hRB6 hC6;go_wp2_with fail;refine hhr.out.mono ?_;rintro e w7 ⟨rfl,hO7,hC7⟩;have hV7:=hO7.view;have hb07:Below w.heap.size w w7:=by
  obtain⟨lb,lc,rest,by',V,v',S',_,_,_,_,h5,_⟩:=hO7.st;have h3:=Z2w h5.bel hBlow.out hz03;exact hbw3.out.trans h3
 have hen:=iD (Z5d cb r2 1 Xh as_ 2 _ Z0 true 0 w7 hC7);clear hhr hO7 hC7 hb06;replace hV7:=iD hV7;replace hb07:=iD hb07;go_wp2_with fail;refine hen.out.mono ?_;rintro e w8 ⟨rfl,hb78⟩;have hV8:=hV7.out.below hb78;have hb08:=hb07.out.trans (hb78.mono hb07.out.size);have htx:=iD (hV8.text hm2 ha1 (by simp) (keys_below hK hb08));clear hen hV7 hb07 hV8 hb78;replace hb08:=iD hb08;go_wp2_with fail;refine htx.out.mono ?_;rintro e w9 ⟨rfl,hb89⟩;have hb09:=iD (hb08.out.trans (hb89.mono hb08.out.size));have hs1:∀ W,(Instr.sliceAt 9 (.string ⟨as_.toArray⟩) none (some (.int .i64 10)) none).run lD W=.ok (.string ⟨#[82,77,49,1,1,4,109,97,105,110]⟩) W:=fun W=>by
  have:=Z8a W as_ 10 (by omega);rw[hah.out] at this;exact this
 have hsz:(⟨as_.toArray⟩:ByteArray).size=as_.length:=Jw as_;clear htx hb08 hb89;go_wp2_with fail;go_returns;exact⟨rfl,hb09.out⟩
end
end Go.Proofs.YtefjlobdifjogaaGreatDoor
