import Derived.Test.YtfdimggmljkkbaaGreatDoorP25
import Derived.Sort.Grow
import Derived.Shelf.SlSortCmp.WholeK
import Derived.Shelf.SlSortCmp.NoneTotal
import Derived.Ground.SlsfProg
open Array renaming replicate → lU, getElem?_modify → nD
open Go renaming wpList_load_mid → lK, wpQuiet_nil → lV
open Go.Instr renaming lookup → l8
open Go.IntWalk renaming i64_in → l3
open Go.Proofs.Tryz renaming prog → lC
open Go.RowKit.Below renaming refl → lE
open Go.Sort renaming flatK → lH, putCells → lJ, grow → lL, onCells → lW
open Go.Value renaming bool → lD
open Go.World renaming alloc → lM, setRow → lO, drewN → lZ
open List renaming replicate → lB, getElem_mem → lF, getElem?_eq_getElem → lI, getElem?_take → lN, length_map → lP, getD → lQ, mem_map → lR, take_length → lT, mem_append → lX, mem_of_getElem? → lY, map_set → l2, length_append → l4, length_singleton → l5, getElem?_eq_some_iff → l6, take_succ_eq_append_getElem → l7, take_succ_cons → l9, take_zero → nA, drop_succ_cons → nB, drop_zero → nC
open Nat renaming le_refl → lA, zero_le → lS, add_assoc → l0
open Subtype renaming val → lG
section
set_option maxRecDepth 100000
set_option maxHeartbeats 8000000
open Go.Lib renaming hid → iD
open Go.Proofs.Tryz
namespace Go.Proofs.YtfdimggmljkkbaaGreatDoor
open Go.RowKit
theorem Zmz{w:World}{ok:Nat->Prop}{d:Str}{p:Value}{l:List Str}(h:Z7 w ok p l):∀ v ∈ Yq d p,v.oneCell'=true:=by
 obtain⟨A,c,rfl,_,_⟩:=h;intro v hv;simp only[Yq,lX,lR,List.mem_cons,List.not_mem_nil,or_false] at hv;rcases hv with ⟨_,_,rfl⟩ | rfl <;> rfl
theorem Zn0(N:List PNd)(hN:NdOk N)(hri:∀ x ∈ N,rises x.par=true)(NV:Value)(ok:Nat->Prop)(w:World)(hNV:NdsIs w ok NV N) :
  Calls lC 152 #[NV] w fun e w'=>∃ b,e=.returned (.tuple #[.map (some b),.int .i64 0,.int .i64 0])/\w.heap.size<=b/\Zg w' b (byN N)/\Below w.heap.size w w':=by
 have hlen:=hN.len;have hNb:=iD (fun W (hb:Below w.heap.size w W)=>hNV.stayB hb);obtain⟨NA,nc,hNVe,_⟩:=hNV.row;subst hNVe;clear hNV;have hmm:=@Zkn lC 26 _ _ underlying26;have g2:decide ((200:Int)<(N.length:Int))=false:=decide_eq_false (by omega);have hz:Z0e.length=33:=by decide
 replace hN:=iD hN;replace hri:=iD hri;go_enter func152,ntmps152;go_wp2_with fail;generalize hW1:lM w _=w1;have hM1:Zg w1 w.heap.size []:=by rw[<-hW1];exact Zg.new_at rfl
 have hb1:Below w.heap.size w w1:=by rw[<-hW1];exact bL
 clear hW1 hmm;replace hM1:=iD hM1;replace hb1:=iD hb1;go_loopw [17] (fun i wr=>∃ m:Nat,m<=N.length/\i=.int .i64 (m:Int)/\Zg wr w.heap.size (byN (N.take m))/\Below w.heap.size w wr) (fun i _=>N.length - (intOf i).toNat)
 case atStart=>exact⟨0,lS _,rfl,hM1.out,hb1.out⟩
 case round =>
  obtain⟨m,hm,rfl,hM,hb⟩:=hrel;by_cases hlt:m<N.length
  ·obtain⟨x,hx⟩:∃ x,N[m]?=some x:=⟨_,lI hlt⟩;have hxm:=lY hx;obtain⟨hxl,hpo,hp8⟩:=hN.out.fit x hxm;obtain⟨_,_,he,hnode⟩:=(hNb.out _ hb).row;obtain⟨g,p,hNA,hgl,_,hidc,hpc,hpar⟩:=hnode m x hx
   injection he with he1 _ he3
   subst he1;subst he3;subst hNA;have hck:=Zd0 hxl hidc hpc;have hone:=Zmz (d:=x.id) hpar;have hvl:(Yq x.id p).length=33:=Zb3 hxl _;have hpw:=iD (fun W (hb:Below wr.heap.size wr W)=>hpar.stayB hb);have hNl:(N.take m).length=m:=by rw[List.length_take];omega
   have hnew:∀ y ∈ N.take m,y.id ≠ x.id:=fun y hy e=>by
    obtain⟨j,hj,hjy⟩:=List.getElem_of_mem hy;have h1:N[j]?=some y:=by
     have:=lI hj;rw[hjy,lN] at this;split at this
     ·exact this
     ·cases this
    have:=hN.out.inj j m y x h1 hx e;omega
   have hfound:∀ d ∈ x.par,∃ (j:Nat) (y:PNd),(N.take m)[j]?=some y/\y.id=d:=fun d hd=>by
    obtain⟨j,y,h1,h2,h3⟩:=hN.out.back m x hx d hd;exact⟨j,y,by rw[lN,if_pos h1,h2],h3⟩
   have hwr:=iD (fun W (hb:Below wr.heap.size wr W)=>Zmy (N.take m) (hN.out.take m) x hxl hpo hp8 (hri.out x hxm) hnew hfound p w.heap.size ok W (hpw.out W hb) (hM.below hb hM.lt));have hbk:=iD (Qc (hN.out.take m));have hbn:=iD (Z1y (d:=x.id) hnew);have hsn:=iD (Zmx hx);obtain⟨nc',hnc⟩:∃ nc',nc'=Yq x.id p:=⟨_,rfl⟩;have hnd:nc'.drop 0=x.id.map B++[p]:=by rw[hnc];rfl
   rw[<-hnc] at hck hone hvl hwr;obtain⟨ds,hds⟩:∃ ds,ds=x.id:=⟨_,rfl⟩;rw[<-hds] at hxl hnd hbn;have i1:(0:Int)<=(m:Int):=by omega
   have i2:(m:Int)<(N.length:Int):=by omega
   replace hck:=iD hck;replace hone:=iD hone;replace hnc:=iD hnc;replace hnd:=iD hnd;replace hds:=iD hds;replace hM:=iD hM;replace hb:=iD hb;replace hx:=iD hx;replace hNl:=iD hNl;clear hnode hidc hpc hpar hnew hfound hM1 hb1;go_upto_region 7 with (first
    | (refine lK rfl 94 (.tmp 20) rfl g (m*33) rfl nc' _ (fun j v hv=>hck.out j v hv) underlying94 rfl (Z3l hvl) ?_;go_frame)
    | (refine Zo rfl 94 (.tmp 7) (.tmp 21) rfl wr.heap.size nc' rfl rfl 94 Z0e (Blk.new_at rfl) (by rw[hz,hvl]) (Z3l hvl) hone.out ?_;go_frame)
    | fail)
   generalize hW2:lO _ wr.heap.size nc'.toArray=w2;have hX2:Blk w2 wr.heap.size 94 nc':=by rw[<-hW2];exact (Blk.new_at (cs:=Z0e) rfl).setRow_same nc'
   have hb12:Below wr.heap.size wr w2:=by rw[<-hW2];exact below_setRow ((lE _ _).alloc (lA _) (.cells Z0e.toArray 94)) (lA _) nc'.toArray
   have hwr2:=iD (hwr.out w2 hb12);replace hX2:=iD hX2;replace hb12:=iD hb12;clear hW2 hwr;go_wp2_with (first
    | (refine Y0 rfl 94 (.tmp 7) rfl wr.heap.size rfl 94 nc' hX2.out _ underlying94 rfl (Z3l hvl) ?_;go_frame)
    | fail)
   refine hwr2.out.mono ?_;rintro e w3 ⟨rfl,hb3⟩;have hb13:=hb12.out.trans (hb3.mono hb12.out.size);have hX3:=hX2.out.below hb3 hX2.out.lt;have hM3:=hM.out.below hb13 hM.out.lt;have hb03:=hb.out.trans (hb13.mono hb.out.size);obtain⟨w4,hrun,hM4,ht4⟩:=hM3.store Xz underlying26 hbk.out (Jm ds hxl) hbn.out (.int .i64 (m:Int));have hb4:Below w.heap.size w w4:=hb03.trans ((V9 ht4).below hb03.size (fun i hi=>by simp at hi;omega));have hMf:Zg w4 w.heap.size (byN (N.take (m+1))):=by
    rw[hsn.out,Z6y];rw[hds.out] at hM4;have e:((N.take m).length:Int)=(m:Int):=by rw[hNl.out]
    rw[e];exact hM4
   clear hwr2 hX2 hb3 ht4 hb03 hM3 hM4;replace hX3:=iD hX3;replace hrun:=iD hrun;replace hMf:=iD hMf;replace hb4:=iD hb4;replace hb13:=iD hb13;go_wp2_with (first
    | (refine K3 rfl 47 (.tmp 30) rfl wr.heap.size 0 rfl 94 nc' (ds.map B) [p] hX3.out hnd.out _ underlying47 rfl (Za hxl) ?_;go_frame)
    | (refine Ol rfl (Ok 26 (.tmp 29) (.tmp 31) (.tmp 32) rfl _ _ _ rfl rfl rfl hrun.out) ?_;go_frame)
    | fail)
   exact⟨⟨m+1,by omega,by go_num,hMf.out,hb4.out⟩,by simp[intOf];omega⟩
  ·have hmt:m=N.length:=by omega
   subst hmt;rw[lT] at hM;replace hM:=iD hM;replace hb:=iD hb;go_wp2_with fail;go_returns;exact⟨_,rfl,lA _,hM.out,hb.out⟩
structure LookM (w:World) (k b sb:Nat) (NV:Value) (N:List PNd):Prop where
 look:Blk w k 171 [NV,.map (some b),.slice (some ⟨sb,0,none⟩) N.length N.length]
 by_:Zg w b (byN N)
theorem LookM.below{w w':World}{k b sb:Nat}{NV:Value}{N:List PNd}(h:LookM w k b sb NV N)(hb:Below w.heap.size w w'):LookM w' k b sb NV N:=⟨h.look.below hb h.look.lt,h.by_.below hb h.by_.lt⟩
theorem Zn1(N:List PNd)(hN:NdOk N)(hri:∀ x ∈ N,rises x.par=true)(NV:Value)(ok:Nat->Prop)(vb vc m:Nat)(vs vr:List Value)(hm:vs.length=m)(hm9:m<=1000)(w:World)(hNV:NdsIs w ok NV N)(hV:Blk w vb 37 (vs++vr))(hs:∀ v ∈ vs,∃ ids,Z7 w ok v ids/\hOk ids/\ids.length<=100000/\∀ d ∈ ids,∃ (j:Nat) (y:PNd),N[j]?=some y/\y.id=d) :
    Calls lC 79 #[NV,.slice (some ⟨vb,0,none⟩) m vc] w fun e w'=>∃ k b sb,e=.returned (.tuple #[.pointer (some ⟨k,0,none⟩),.int .i64 0])/\LookM w' k b sb NV N/\w.heap.size<=k/\w.heap.size<=b/\w.heap.size<=sb/\Below w.heap.size w w':=by
  have hlen:=hN.len;have hrd:=iD (Zn0 N hN hri NV ok w hNV);obtain⟨NA,nc,hNVe,_⟩:=hNV.row;subst hNVe;have hmk:=Z1z N.length (by omega);have hrep:lU N.length (lD false)=((lB N.length false).map lD).toArray:=by simp
  replace hrep:=iD hrep;have hMk:=iD (Qc hN);replace hN:=iD hN;replace hri:=iD hri;replace hV:=iD hV;replace hs:=iD hs;clear hNV;go_enter func79,ntmps79;go_wp2_with fail;refine hrd.out.mono ?_;rintro e w1 ⟨b,rfl,hbb,hM1,hb1⟩;replace hM1:=iD hM1;replace hb1:=iD hb1;clear hrd;go_wp2_with fail;go_loopw [26] (fun i wr=>∃ k:Nat,k<=m/\i=.int .i64 (k:Int)/\Below w1.heap.size w1 wr) (fun i _=>m - (intOf i).toNat)
  case atStart=>exact⟨0,by omega,rfl,lE _ _⟩
  case round =>
    obtain⟨k,hk,rfl,hbr⟩:=hrel;have hb0r:=hb1.out.trans (hbr.mono hb1.out.size);by_cases hlt:k<m
    · have hkv:k<vs.length:=by omega
      have ck:wr.cell? ⟨vb,k,none⟩=some (vs[k]):=by
        have:=(hV.out.below hb0r hV.out.lt).cell k
        rwa [List.getElem?_append_left hkv,lI hkv] at this
      obtain⟨ids,hI,hio,hil,hfind⟩:=hs.out vs[k] (lF hkv);have hIb:=iD (fun W (hb:Below w.heap.size w W)=>hI.stayB hb);obtain⟨IA,ic,hIe,_,_⟩:=hI;rw[hIe] at ck hIb;have i1:(0:Int)<=(k:Int):=by omega
      have i2:(k:Int)<(m:Int):=by omega
      replace hIe:=iD hIe;replace hbr:=iD hbr;replace hb0r:=iD hb0r;replace hio:=iD hio;replace hfind:=iD hfind;go_wp2_with fail;clear ck;go_loopw [32] (fun i wv=>∃ j:Nat,j<=ids.length/\i=.int .i64 (j:Int)/\Below w1.heap.size w1 wv) (fun i _=>ids.length - (intOf i).toNat)
      case atStart=>exact⟨0,by omega,rfl,hbr.out⟩
      case round =>
        obtain⟨j,hj,rfl,hbv⟩:=hrel;have hb0v:=hb1.out.trans (hbv.mono hb1.out.size);by_cases hlt2:j<ids.length
        · obtain⟨ib,io,hIA,_,hbl,hc1⟩:=(hIb.out _ hb0v).dig hio.out j hlt2
          subst hIA;obtain⟨d,hd⟩:∃ d,d=ids[j]:=⟨_,rfl⟩;have hdl':d.length=32:=by rw[hd];exact hio.out _ (lF _)
          obtain⟨q,y,hq,hy⟩:=hfind.out d (by rw[hd];exact lF _);rw[<-hd] at hc1;have j1:(0:Int)<=(j:Int):=by omega
          have j2:(j:Int)<(ids.length:Int):=by omega
          have hMm:=iD (Qo hq);have hMu:=iD (Qp hN.out hq);rw[hy] at hMm hMu;replace hbv:=iD hbv;replace hb0v:=iD hb0v;replace hc1:=iD hc1;replace hd:=iD hd;go_wp2_with (first
            | (refine lK rfl 47 (.tmp 34) rfl ib (io+j*32) rfl (d.map B) _ (fun j v hv=>hc1.out j v hv) underlying47 rfl (Za hdl') ?_;go_frame)
            | (refine Zo rfl 47 (.tmp 12) (.tmp 35) rfl wr.heap.size (d.map B) rfl rfl 47 Z3 (Blk.new_at rfl) (by simp[hdl',Z3]) (Za hdl') (Yk _) ?_
               generalize hw1:lO _ wr.heap.size (d.map B).toArray=w9;have hB9:Blk w9 wr.heap.size 47 (d.map B):=by
                 rw[<-hw1];exact (Blk.new_at (w:=wr) (t:=47) (cs:=Z3) rfl).setRow_same (d.map B)
               have hb9:Below wr.heap.size wr w9:=by
                 rw[<-hw1];exact below_setRow ((lE wr.heap.size wr).alloc (lA _) (.cells Z3.toArray 47)) (lA _) (d.map B).toArray
               clear hw1;have hb39:=hbv.out.trans (hb9.mono hbv.out.size);have hrun9:=iD ((hM1.out.below hb39 hM1.out.lt).look_some Xz underlying26 hMk.out (Jm d hdl') hMm.out hMu.out true);replace hB9:=iD hB9;replace hb39:=iD hb39;clear hb9;go_frame)
            | (refine Y0 rfl 47 (.tmp 12) rfl wr.heap.size rfl 47 (d.map B) hB9.out _ underlying47 rfl (Za hdl') ?_)
            | (refine Ke rfl (.tuple #[.int .i64 (q:Int),.bool true]) (Jk 26 (.tmp 37) (.tmp 38) true rfl _ _ _ rfl rfl hrun9.out) ?_;go_frame)
            | fail)
          exact⟨⟨j+1,by omega,by go_num,hb39.out⟩,by simp[intOf];omega⟩
        · have hjt:j=ids.length:=by omega
          subst hjt;replace hbv:=iD hbv;go_wp2_with fail;exact⟨⟨k+1,by omega,by go_num,hbv.out⟩,by simp[intOf];omega⟩
    · have hkm:k=m:=by omega
      subst hkm;clear hlt;go_wp2_with fail;go_returns;have hl1:w1.heap.size<=wr.heap.size:=hbr.size;have hl0:=hb1.out.size;rw[hrep.out];have hg:Below wr.heap.size wr ((wr.alloc (.cells ((lB N.length false).map lD).toArray 4)).alloc (.cells #[.slice NA N.length nc,.map (some b),.slice (some ⟨wr.heap.size,0,none⟩) N.length N.length] 171)):=bL.alloc (by simp) _;have h1:=hbr.trans (hg.mono hl1);exact⟨wr.heap.size+1,b,wr.heap.size,rfl,⟨Blk.new_at (cs:=[.slice NA N.length nc,.map (some b),.slice (some ⟨wr.heap.size,0,none⟩) N.length N.length]) (by simp),hM1.out.below h1 hM1.out.lt⟩,by omega,hbb,by omega,hb1.out.trans (h1.mono hl0)⟩
end Go.Proofs.YtfdimggmljkkbaaGreatDoor
end
section
set_option maxRecDepth 100000
set_option maxHeartbeats 1000000
open Go.Lib renaming hid → iD
open Go.Proofs.Tryz
namespace Go.Proofs.YtfdimggmljkkbaaGreatDoor
open Go.RowKit
def J3(w w':World):Prop:=∃ q os,w'=lL (w.drewN q) os
theorem J3.refl(w:World):J3 w w:=⟨0,#[],by simp[lL];rfl⟩
theorem J3.alloc{w w':World}(h:J3 w w')(o:Obj):J3 w (w'.alloc o):=by
 obtain⟨q,os,rfl⟩:=h;exact⟨q,os ++ #[o],by rw[Sort.alloc_eq_grow,Sort.grow_grow]⟩
theorem J3.drewN{w w':World}(h:J3 w w')(n:Nat):J3 w (w'.drewN n):=by
 obtain⟨q,os,rfl⟩:=h;refine⟨q+n,os,?_⟩;simp only[lL,lZ,l0]
theorem J3.trans{a b c:World}(h:J3 a b)(k:J3 b c):J3 a c:=by
 obtain⟨q,os,rfl⟩:=h;obtain⟨r,os',rfl⟩:=k;refine⟨q+r,os++os',?_⟩;simp only[lL,lZ,l0,Array.append_assoc]
theorem J3.below{w w':World}(h:J3 w w'):Below w.heap.size w w':=by
 obtain⟨q,os,rfl⟩:=h;refine⟨rfl,rfl,rfl,?_,fun k hk=>?_⟩
 ·simp[lL]
 ·show (w.heap++os)[k]?=_;rw[Array.getElem?_append_left hk]
theorem Zn2(a b:List UInt8)(ha:a.length=32)(hb:b.length=32)(w:World) :
    Calls lC 136 #[.agg (a.map B).toArray,.agg (b.map B).toArray] w fun e w'=>e=.returned (.bool (Ze a b))/\J3 w w':=by
  have hsa:(lC.info? 47).map (·.size)=some (a.map B).length:=by rw[lP,ha];kernel_rfl
  have hsb:(lC.info? 47).map (·.size)=some (b.map B).length:=by rw[lP,hb];kernel_rfl
  replace hsa:=iD hsa;replace hsb:=iD hsb;replace ha:=iD ha;replace hb:=iD hb;go_enter func136,ntmps136;go_wp2_with (first
    | (refine Y0 rfl 47 (.tmp 2) rfl w.heap.size rfl 47 (a.map B) ((Blk.new_at rfl).alloc _) _ underlying47 rfl hsa.out ?_)
    | (refine Y0 rfl 47 (.tmp 3) rfl (w.heap.size+1) rfl 47 (b.map B) (Blk.new_at (by simp)) _ underlying47 rfl hsb.out ?_)
    | (refine O4 rfl (.tmp 5) (.tmp 6) _ rfl a b rfl rfl ha.out hb.out ?_))
  · go_ret
    refine⟨?_,((J3.refl _).alloc _).alloc _⟩;have : a=b:=by simpa using ‹(a == b)=true›
    rw[this,G5];rfl
  · go_frame
    have hB1:Blk ((w.alloc (.cells (a.map B).toArray 47)).alloc (.cells (b.map B).toArray 47)) w.heap.size 47 (a.map B):=(Blk.new_at rfl).alloc _;have hB2:Blk ((w.alloc (.cells (a.map B).toArray 47)).alloc (.cells (b.map B).toArray 47)) (w.heap.size+1) 47 (b.map B):=Blk.new_at (by simp);have hbl:J3 w ((w.alloc (.cells (a.map B).toArray 47)).alloc (.cells (b.map B).toArray 47)):=((J3.refl _).alloc _).alloc _;generalize (w.alloc (.cells (a.map B).toArray 47)).alloc (.cells (b.map B).toArray 47)=w1 at hB1 hB2 hbl ⊢;refine wp_region_quiet_lit (by kernel_rfl) (by kernel_rfl) ?_;repeat (first
      | (refine Z0t (ok:=fun _=>True) 99 9 (.tmp 8) rfl rfl 5 underlying99 underlying5 underlying9 (some ⟨w.heap.size,0,none⟩) a 32 (by rw[ha.out];rfl) (fun w' hw=>?_) ?_
         · obtain⟨n,rfl⟩:=hw
           exact Rd.of_blk (r:=[]) (hB1.drewN n) (by simp) trivial
         go_frame)
      | (refine Z0t (ok:=fun _=>True) 99 9 (.tmp 10) rfl rfl 5 underlying99 underlying5 underlying9 (some ⟨w.heap.size+1,0,none⟩) b 32 (by rw[hb.out];rfl) (fun w' hw=>?_) ?_
         · obtain⟨n,rfl⟩:=hw
           exact Rd.of_blk (r:=[]) (hB2.drewN n) (by simp) trivial
         go_frame)
      | go_big_quiet_step (fail))
    refine lV ?_;rintro _ ⟨nq,rfl⟩;go_wp2;go_ret;exact⟨rfl,hbl.drewN nq⟩
def Z27(a b:Str):Int:=if Ze a b then -1 else if a == b then 0 else 1
theorem Zn3(a b:List UInt8)(ha:a.length=32)(hb:b.length=32)(w:World) :
  Calls lC 199 #[.agg (a.map B).toArray,.agg (b.map B).toArray] w fun e w'=>e=.returned (.int .i64 (Z27 a b))/\J3 w w':=by
 have hle:=iD (fun W=>Zn2 a b ha hb W);replace ha:=iD ha;replace hb:=iD hb;obtain⟨r,hr⟩:∃ r,r=Z27 a b:=⟨_,rfl⟩;rw[<-hr];unfold Z27 at hr;replace hr:=iD hr;go_enter func199,ntmps199;go_upto_region 1 with fail;have hB1:Blk ((w.alloc (.cells (a.map B).toArray 47)).alloc (.cells (b.map B).toArray 47)) w.heap.size 47 (a.map B):=(Blk.new_at rfl).alloc _;have hB2:Blk ((w.alloc (.cells (a.map B).toArray 47)).alloc (.cells (b.map B).toArray 47)) (w.heap.size+1) 47 (b.map B):=Blk.new_at (by simp);have hbl:J3 w ((w.alloc (.cells (a.map B).toArray 47)).alloc (.cells (b.map B).toArray 47)):=((J3.refl _).alloc _).alloc _;generalize (w.alloc (.cells (a.map B).toArray 47)).alloc (.cells (b.map B).toArray 47)=w1 at hB1 hB2 hbl ⊢;replace hB1:=iD hB1;replace hB2:=iD hB2;replace hbl:=iD hbl;have ha':=ha.out;have hb':=hb.out;replace ha':=iD ha';replace hb':=iD hb';go_wp2_with (first
  | (refine Y0 rfl 47 (.tmp 2) rfl w.heap.size rfl 47 (a.map B) hB1.out _ underlying47 rfl (Za ha.out) ?_;go_frame)
  | (refine Y0 rfl 47 (.tmp 3) rfl (w.heap.size+1) rfl 47 (b.map B) hB2.out _ underlying47 rfl (Za hb.out) ?_;go_frame)
  | fail)
 refine (hle.out _).mono ?_;rintro e w2 ⟨rfl,hg2⟩;have hB1':=iD (hB1.out.below hg2.below hB1.out.lt);have hB2':=iD (hB2.out.below hg2.below hB2.out.lt);have hg:=iD (hbl.out.trans hg2);replace hr:=hr.out;replace hg2:=iD hg2;clear hle hB1 hB2 hbl;cases hl:Ze a b with
 | true =>
  rw[hl,if_pos rfl] at hr;replace hl:=iD hl;subst hr;go_wp2_with fail;go_ret;exact⟨rfl,hg.out⟩
 | false =>
  rw[hl,if_neg (by decide)] at hr;replace hl:=iD hl;cases he:(a == b) with
  | true =>
   rw[he,if_pos rfl] at hr;subst hr;go_wp2_with (first
    | (refine Y0 rfl 47 (.tmp 2) rfl w.heap.size rfl 47 (a.map B) hB1'.out _ underlying47 rfl (Za ha.out) ?_;go_frame)
    | (refine Y0 rfl 47 (.tmp 3) rfl (w.heap.size+1) rfl 47 (b.map B) hB2'.out _ underlying47 rfl (Za hb.out) ?_;go_frame)
    | (refine O4 rfl (.tmp 10) (.tmp 11) _ rfl a b rfl rfl ha.out hb.out ?_;rw[he];go_frame)
    | fail)
   go_ret;exact⟨rfl,hg.out⟩
  | false =>
   rw[he,if_neg (by decide)] at hr;subst hr;go_wp2_with (first
    | (refine Y0 rfl 47 (.tmp 2) rfl w.heap.size rfl 47 (a.map B) hB1'.out _ underlying47 rfl (Za ha.out) ?_;go_frame)
    | (refine Y0 rfl 47 (.tmp 3) rfl (w.heap.size+1) rfl 47 (b.map B) hB2'.out _ underlying47 rfl (Za hb.out) ?_;go_frame)
    | (refine O4 rfl (.tmp 10) (.tmp 11) _ rfl a b rfl rfl ha.out hb.out ?_;rw[he];go_frame)
    | fail)
   go_ret;exact⟨rfl,hg.out⟩
end Go.Proofs.YtfdimggmljkkbaaGreatDoor
end
section
set_option maxRecDepth 100000
set_option maxHeartbeats 16000000
open Go.Lib renaming hid → iD
open Go.Proofs.Tryz
namespace Go.Proofs.YtfdimggmljkkbaaGreatDoor
open Go.RowKit
def Jv(l:List Str):List Str:=l.mergeSort fun x y=>!Ze y x
theorem Z44(l:List Str):(Jv l).length=l.length:=by unfold Jv;rw[List.length_mergeSort]
theorem Z45(l:List Str)(d:Str):d ∈ Jv l ↔ d ∈ l:=by unfold Jv;rw[List.mem_mergeSort]
def Uy:Prop:=∀ (l:List Str),hOk l->l.length<=200->∀ (base:Nat) (v:Value) (w:World),w.ownsRow base 47 32 v l.length (Zy l)->base<=w.heap.size ->
 Calls lC 198 #[v,.func (.func 199) #[] #[]] w fun e w'=>e=.returned (.tuple #[])/\w'.ownsRow base 47 32 v l.length (Zy (Jv l))/\Below base w w'
def Jw(N:List PNd)(ins:List Bool):Nat->List Bool->List Str->List Str
 | 0,_,o=>o
 | i+1,u,o=>Jw N ins i (if ins.getD i false || u.getD i false then Y6 N u (Vj N i) else u) (if ins.getD i false && !u.getD i false then o++[Q1 N i] else o)
def Vl(N:List PNd)(ins:List Bool):List Str:=Jv (Jw N ins N.length (lB N.length false) [])
structure HdSt (w W:World) (ub:Nat) (ov:Value) (us:List Bool) (o:List Str) (n:Nat):Prop where
 below:Below w.heap.size w W
 U:Blk W ub 4 (us.map lD)
 lo:w.heap.size<=ub
 len:us.length=n
 row:W.ownsRow w.heap.size 47 32 ov o.length (Zy o)
theorem HdSt.calm{w W W':World}{ub:Nat}{ov:Value}{us:List Bool}{o:List Str}{n:Nat}(h:HdSt w W ub ov us o n)(hb:Below W.heap.size W W'):HdSt w W' ub ov us o n :=
 ⟨h.below.trans (hb.mono h.below.size),h.U.below hb h.U.lt,h.lo,h.len,Zk (L:=[]) h.row (Touch.ofBelow hb) (by simp)⟩
theorem HdSt.set{w W:World}{ub:Nat}{ov:Value}{us:List Bool}{o:List Str}{n:Nat}(h:HdSt w W ub ov us o n)(j:Nat):HdSt w (W.setCell ⟨ub,j,none⟩ (.bool true)) ub ov (us.set j true) o n :=
 ⟨h.below.setCell h.lo _,by rw[l2];exact h.U.set_ j _,h.lo,by rw[List.length_set];exact h.len,Zk h.row (Touch.setCell (L:=[ub]) _ (by simp)) (fun g hg hm=>by
  obtain⟨cs,hB⟩:=Q2 h.row hg;obtain rfl:g=ub:=by simpa using hm
  exact hB.ne_ h.U (by decide) rfl)⟩
theorem Zn4(hS:Uy)(N:List PNd)(hN:NdOk N)(ins:List Bool)(hil:ins.length=N.length)(k b sb ib ic:Nat)(NV:Value)(ok:Nat->Prop)(w:World)(hNV:NdsIs w ok NV N)(h:LookM w k b sb NV N)(hI:Blk w ib 4 (ins.map lD)) :
    Calls lC 138 #[.pointer (some ⟨k,0,none⟩),.slice (some ⟨ib,0,none⟩) N.length ic] w fun e w'=>∃ v,e=.returned v/\w'.ownsRow w.heap.size 47 32 v (Vl N ins).length (Zy (Vl N ins))/\Below w.heap.size w w':=by
  have hNl:=hN.len;have hNb:=iD (fun W (hb:Below w.heap.size w W)=>hNV.stayB hb);have hLb:=iD (fun W (hb:Below w.heap.size w W)=>h.below hb);have hIb:=iD (fun W (hb:Below w.heap.size w W)=>hI.below hb hI.lt);have hMk:=iD (Qc hN);obtain⟨NA,nc,hNVe,_⟩:=hNV.row;subst hNVe;have k0:w.cell? ⟨k,0,none⟩=some (.slice NA N.length nc):=h.look.cell 0;have hmk:=Z1z N.length (by omega);have hrep:lU N.length (lD false)=((lB N.length false).map lD).toArray:=by simp
  replace hrep:=iD hrep;replace hS:=iD hS;replace hN:=iD hN;unfold Vl;clear hNV h hI;go_enter func138,ntmps138;go_upto_region 2 with fail;rw[hrep.out];generalize hW1:lM w _=w1;have hst1:Hid (HdSt w w1 w.heap.size Z2 (lB N.length false) [] N.length):=iD (by
    rw[<-hW1];exact⟨bL,Blk.new_at (cs:=(lB N.length false).map lD) rfl,lA _,by simp,⟨rfl,.inl ⟨rfl,rfl⟩⟩⟩)
  clear hW1 hmk k0;have k0:w1.cell? ⟨k,0,none⟩=some (.slice NA N.length nc):=(hLb.out _ hst1.out.below).look.cell 0;have gN:IntKind.i64.wrap ((N.length:Int) - 1)=(N.length:Int) - 1:=l3 _ (by omega);go_wp2_with fail;clear k0;obtain⟨fin,hfin⟩:∃ fin,fin=Jw N ins N.length (lB N.length false) []:=⟨_,rfl⟩;go_loopw [6,7] (fun ov iv wr=>∃ (i:Nat) (z:Int) (us:List Bool) (o:List Str),i<=N.length/\z=(i:Int) - 1/\iv=.int .i64 z/\HdSt w wr w.heap.size ov us o N.length/\Jw N ins i us o=fin/\hOk o/\o.length+i<=N.length) (fun _ iv _=>((intOf iv)+1).toNat)
  case atStart=>exact⟨N.length,_,_,[],lA _,rfl,rfl,hst1.out,hfin.symm,(fun d hd=>by cases hd),by simp⟩
  case round =>
    obtain⟨i,z,us,o,hi,hz,rfl,hst,hfi,hoo,hol⟩:=hrel;clear hst1;by_cases hi0:i=0
    · have gz:decide ((0:Int)<=z)=false:=decide_eq_false (by omega)
      subst hi0;rw[Jw] at hfi;subst hfi;have hsrt:=iD (fun W (h:W.ownsRow w.heap.size 47 32 u6 o.length (Zy o)) (hb:w.heap.size<=W.heap.size)=>hS.out o hoo (by omega) w.heap.size u6 W h hb);have hbw:=hst.below.size;replace hst:=iD hst;replace hz:=iD hz;replace hfin:=iD hfin;obtain⟨OA,oc,hOv,_,_⟩:=Z6 hst.out.row;subst hOv;go_wp2_with fail;refine (hsrt.out _ hst.out.row hbw).mono ?_;rintro e w4 ⟨rfl,hrow4,hb4⟩;have hbf:=hst.out.below.trans hb4;replace hrow4:=iD hrow4;replace hbf:=iD hbf;go_wp2_with fail;go_ret;refine⟨_,rfl,?_,hbf.out⟩;rw[<-hfin.out,Z44];exact hrow4.out
    · obtain⟨q,hq⟩:∃ q,i=q+1:=⟨i - 1,by omega⟩
      subst hq;obtain rfl:z=(q:Int):=by omega
      have hqn:q<N.length:=by omega
      obtain⟨x,hxq⟩:∃ x,N[q]?=some x:=⟨_,lI hqn⟩;obtain⟨hxl,hpo,hp8⟩:=hN.out.fit x (lY hxq);obtain⟨_,_,he,hnode⟩:=(hNb.out _ (lE _ _)).row;obtain⟨g,p,hNA,hgl,_,hidc,hpc,hpar⟩:=hnode q x hxq
      injection he with he1 _ he3
      subst he1;subst he3;subst hNA;have hpw:=iD (fun W (hb:Below w.heap.size w W)=>hpar.stayB hb);obtain⟨PA,pc,rfl,_,_⟩:=hpar;have hcw:=iD (fun W (hb:Below w.heap.size w W)=>show (∀ j v,(x.id.map B)[j]?=some v->W.cell? ⟨g,q*33+j,none⟩=some v)/\W.cell? ⟨g,q*33+32,none⟩=some (.slice PA x.par.length pc)/\W.cell? ⟨k,0,none⟩=some (.slice (some ⟨g,0,none⟩) N.length nc) from ⟨fun j v hv=>(hb.cell (p:=⟨g,q*33+j,none⟩) hgl).trans (hidc j v hv),(hb.cell (p:=⟨g,q*33+32,none⟩) hgl).trans hpc,(hLb.out W hb).look.cell 0⟩);have hid:=Uv hxq;have hpa:=Oy hxq;have gz:decide ((0:Int)<=(q:Int))=true:=decide_eq_true (by omega);have j1:(0:Int)<=(q:Int):=by omega
      have j2:(q:Int)<(N.length:Int):=by omega
      have hback:=iD (hN.out.back q x hxq);have hqi:q<ins.length:=by omega
      have hqu:q<us.length:=by rw[hst.len];exact hqn
      have ci:wr.cell? ⟨ib,q,none⟩=some (.bool (ins.getD q false)):=by
        rw[(hIb.out _ hst.below).cell];simp[lQ,hqi]
      have cu:wr.cell? ⟨w.heap.size,q,none⟩=some (.bool (us.getD q false)):=by
        rw[hst.U.cell];simp[lQ,hqu]
      obtain⟨bi,hbi⟩:∃ bi,bi=ins.getD q false:=⟨_,rfl⟩;obtain⟨bu,hbu⟩:∃ bu,bu=us.getD q false:=⟨_,rfl⟩;rw[Jw,<-hbi,<-hbu,hid,hpa] at hfi;rw[<-hbi] at ci;rw[<-hbu] at cu;have gq:IntKind.i64.wrap ((q:Int) - 1)=(q:Int) - 1:=l3 _ (by omega);replace hst:=iD hst;replace hfi:=iD hfi;replace hbi:=iD hbi;replace hbu:=iD hbu;replace hid:=iD hid;replace hpa:=iD hpa;replace hxq:=iD hxq;replace hfin:=iD hfin;replace hoo:=iD hoo;clear hnode hidc hpc hz hi0;go_upto_region 6 with fail;go_cut [36] (fun v wx=>v=.bool (bi && !bu)/\wr=wx)
      case first =>
        cases bi <;> cases bu <;> (go_wp2_with fail;go_meet;exact⟨rfl,rfl⟩)
      case rest =>
        obtain⟨rfl,rfl⟩:=hcut;go_upto_if 36 with fail;obtain⟨o2,ho2⟩:∃ o2,o2=(if (bi && !bu)=true then o++[x.id] else o):=⟨_,rfl⟩;rw[<-ho2] at hfi;go_cut [6] (fun ov wx=>HdSt w wx w.heap.size ov us o2 N.length)
        case first =>
          cases hgo:(bi && !bu) with
          | false =>
            rw[hgo,if_neg (by decide)] at ho2;replace ho2:=iD ho2;go_wp2_with fail;go_meet;rw[ho2.out];exact hst.out
          | true =>
            rw[hgo,if_pos rfl] at ho2;obtain⟨c1,c2,c3⟩:=hcw.out _ hst.out.below;have hbw:=hst.out.below.size;have hrow:=hst.out.row;obtain⟨OA,oc,hOv,_,_⟩:=Z6 hrow;subst hOv;have hol':o.length<=200:=by omega
            replace ho2:=iD ho2;replace c1:=iD c1;replace hrow:=iD hrow;go_wp2_with (first
              | (refine lK rfl 47 (.tmp 44) rfl g (q*33) rfl (x.id.map B) _ (fun j v hv=>c1.out j v hv) underlying47 rfl (Za hxl) ?_;go_frame)
              | (refine Ke rfl _ (Uk 37 (.tmp 45) rfl (.agg (x.id.map B).toArray) _ rfl (Zki x.id hxl _)) ?_
                 generalize hW2:lM wr _=w2;have hb2:Below wr.heap.size wr w2:=by rw[<-hW2];exact bL
                 have hD2:Blk w2 wr.heap.size 47 (x.id.map B):=by rw[<-hW2];exact Blk.new_at (cs:=x.id.map B) rfl
                 have hrow2:=Zk (L:=[]) hrow.out (Touch.ofBelow hb2) (by simp);have hbz:=hst.out.below.trans (hb2.mono hbw);have hbzs:=hbz.size;have hst2:=hst.out.calm hb2;replace hD2:=iD hD2;replace hrow2:=iD hrow2;replace hst2:=iD hst2;clear hW2 hb2 hbz;go_frame)
              | (at_builtin;refine X0 _ rfl (.tmp 37) (.tmp 46) 37 rfl w.heap.size 47 (.agg Z3.toArray) 32 32 underlying37 Z30 (.slice OA o.length oc) o.length (Zy o) rfl hrow2.out (fun _=>True) (some ⟨wr.heap.size,0,none⟩) 1 1 (x.id.map B) rfl (by simp[hxl]) (Rd.of_blk (cs:=x.id.map B) (r:=[]) hD2.out (by simp) trivial) (Yk _) (by unfold maxLen;omega) (by omega) hbzs ?_;intro V w3 hrow3 hg3 hv3;replace hrow3:=iD hrow3;replace hg3:=iD hg3;clear hv3;go_frame)
              | fail)
            go_meet;rw[ho2.out];have hL3:=Touch.grown (L:=(Value.slice OA o.length oc).ownBlock.toList) hg3.out (fun b hb=>by simp[hb]);refine⟨hst2.out.below.trans (Yd hrow2.out hg3.out hbzs),hst2.out.U.touch hL3 (fun hm=>?_),lA _,hst2.out.len,?_⟩
            · obtain⟨cs,hB⟩:=Q2 hrow2.out (Option.mem_toList.1 hm)
              exact hB.ne_ hst2.out.U (by decide) rfl
            · rw[l4,l5,Zfg]
              exact hrow3.out
        case rest =>
          clear hst;have hoo2:hOk o2:=by
            rw[ho2];split
            · intro d hd
              rcases lX.1 hd with hd | hd
              · exact hoo.out d hd
              · obtain rfl:d=x.id:=by simpa using hd
                exact hxl
            · exact hoo.out
          have hol2:o2.length+q<=N.length:=by
            rw[ho2];split
            · rw[l4,l5];omega
            · omega
          have hst:=hcut;have ci:wc.cell? ⟨ib,q,none⟩=some (.bool bi):=by
            rw[(hIb.out _ hst.below).cell];simp[hbi.out,lQ,hqi]
          have cu:wc.cell? ⟨w.heap.size,q,none⟩=some (.bool bu):=by
            rw[hst.U.cell];simp[hbu.out,lQ,hqu]
          obtain⟨c1,c2,c3⟩:=hcw.out _ hst.below;replace c1:=iD c1;replace hst:=iD hst;replace hoo2:=iD hoo2;replace ho2:=iD ho2;clear hcut;obtain⟨bo,hbo⟩:∃ bo,bo=(bi || bu):=⟨_,rfl⟩;rw[<-hbo] at hfi;go_upto_region 8 with fail;go_cut [57] (fun v wx=>v=.bool bo/\wc=wx)
          case first =>
            cases bi <;> cases bu <;> (simp only[Bool.or_true,Bool.or_false] at hbo;subst hbo;go_wp2_with fail;go_meet;exact⟨rfl,rfl⟩)
          case rest =>
            obtain⟨rfl,rfl⟩:=hcut;clear ci cu;cases bo with
            | false =>
              have hf2:Jw N ins q us o2=fin:=by rw[<-hfi.out,if_neg (by decide)]
              replace hf2:=iD hf2;clear hbo;go_wp2_with fail;exact⟨⟨q,(q:Int) - 1,us,o2,by omega,rfl,rfl,hst.out,hf2.out,hoo2.out,hol2⟩,by simp[intOf]⟩
            | true =>
              have hf2:Jw N ins q (Y6 N us x.par) o2=fin:=by rw[<-hfi.out,if_pos rfl]
              replace hf2:=iD hf2;clear hbo;go_wp2_with fail;clear c2 c3;go_loopw [67] (fun i wv=>∃ m:Nat,m<=x.par.length/\i=.int .i64 (m:Int)/\HdSt w wv w.heap.size u6 (Y6 N us (x.par.take m)) o2 N.length) (fun i _=>x.par.length - (intOf i).toNat)
              case atStart=>exact⟨0,lS _,rfl,hst.out⟩
              case round =>
                obtain⟨m,hm,rfl,hst5⟩:=hrel;by_cases hlt:m<x.par.length
                · obtain⟨ib',io,hPA,_,hbl,hc1⟩:=(hpw.out _ hst5.below).dig hpo m hlt
                  subst hPA;obtain⟨d,hd⟩:∃ d,d=x.par[m]:=⟨_,rfl⟩;have hdl':d.length=32:=by rw[hd];exact hpo _ (lF _)
                  obtain⟨j,y,hjq,hj,hy⟩:=hback.out d (by rw[hd];exact lF _);have hjn:j<N.length:=(l6.1 hj).1;have hix:ixD N d=j:=by rw[<-hy];exact Kf hN.out hj
                  rw[<-hd] at hc1;obtain⟨b2,hb2⟩:∃ b2,b2=Y6 N us (x.par.take m):=⟨_,rfl⟩;rw[<-hb2] at hst5;have hnx:Hid (Y6 N us (x.par.take (m+1))=b2.set j true):=iD (by
                    rw[hb2,l7 hlt,Z0m,<-hd,hix])
                  have i1:(0:Int)<=(m:Int):=by omega
                  have i2:(m:Int)<(x.par.length:Int):=by omega
                  have k1:(0:Int)<=(j:Int):=by omega
                  have k2:(j:Int)<(N.length:Int):=by omega
                  have hMm:=iD (Qo hj);have hMu:=iD (Qp hN.out hj);rw[hy] at hMm hMu;replace hst5:=iD hst5;replace hc1:=iD hc1;replace hd:=iD hd;replace hb2:=iD hb2;replace hix:=iD hix;go_upto_region 12 with (first
                    | (refine lK rfl 47 (.tmp 69) rfl ib' (io+m*32) rfl (d.map B) _ (fun j v hv=>hc1.out j v hv) underlying47 rfl (Za hdl') ?_;go_frame)
                    | (refine Zo rfl 47 (.tmp 9) (.tmp 70) rfl wr.heap.size (d.map B) rfl rfl 47 Z3 (Blk.new_at rfl) (by simp[hdl',Z3]) (Za hdl') (Yk _) ?_;go_frame)
                    | fail)
                  generalize hw1:lO _ wr.heap.size (d.map B).toArray=w9;have hB9:Blk w9 wr.heap.size 47 (d.map B):=by
                    rw[<-hw1];exact (Blk.new_at (w:=wr) (t:=47) (cs:=Z3) rfl).setRow_same (d.map B)
                  have hb9:Below wr.heap.size wr w9:=by
                    rw[<-hw1];exact below_setRow ((lE wr.heap.size wr).alloc (lA _) (.cells Z3.toArray 47)) (lA _) (d.map B).toArray
                  have hst9:=hst5.out.calm hb9;have l1:w9.cell? ⟨k,1,none⟩=some (.map (some b)):=(hLb.out _ hst9.below).look.cell 1;have hD9:Hid (∀ w',(∃ n,w'=w9.drewN n)->Blk w' wr.heap.size 47 (d.map B)):=iD (by rintro _ ⟨n,rfl⟩;exact hB9.drewN n);have hrun:Hid (∀ w',(∃ n,w'=w9.drewN n)->(l8 26 (.map (some b)) (.agg (d.map B).toArray) false).run lC w'=.ok (.int .i64 (j:Int)) w'):=iD (by
                    rintro _ ⟨n,rfl⟩;have hM5:Zg (w9.drewN n) b (byN N):=(hLb.out _ hst9.below).by_.block rfl;exact hM5.look_some Xz underlying26 hMk.out (Jm d hdl') hMm.out hMu.out false)
                  clear hw1 hb9 hB9;replace hst9:=iD hst9;refine Ye 7 (by kernel_rfl) (by kernel_rfl) ?_;simp only[l9,nA,nB,nC];repeat (first
                    | go_big_quiet_step (fail)
                    | (refine Yf 47 (.tmp 9) rfl rfl wr.heap.size 0 rfl 47 (d.map B) (d.map B) [] hD9.out (by simp) _ underlying47 rfl (Za hdl') ?_;go_frame)
                    | (refine Yp (.lookup 26 (.tmp 75) (.tmp 76) false) rfl rfl (.int .i64 (j:Int)) (fun w' hw'=>Jk 26 (.tmp 75) (.tmp 76) false rfl _ _ _ rfl rfl (hrun.out w' hw')) ?_;go_frame))
                  refine lV ?_;rintro _ ⟨nq,rfl⟩;have hbq:Below w9.heap.size w9 (w9.drewN nq):=(Touch.drewN (L:=[]) nq).below (lA _) (fun _ hi=>by cases hi);have hstq:=hst9.out.calm hbq;generalize w9.drewN nq=w10 at hstq ⊢;have hjb:j<b2.length:=by rw[hstq.len];exact hjn
                  have s0:w10.cell? ⟨w.heap.size,j,none⟩=some (.bool b2[j]):=by rw[hstq.U.cell];simp[hjb]
                  have sf:=hstq.U.frozen j;have hset:=iD (hstq.set j);clear hstq hrun hD9 l1 hst9 hbq;go_wp2_with fail;refine⟨⟨m+1,by omega,by go_num,?_⟩,by simp[intOf];omega⟩;rw[hnx.out];exact hset.out
                · have hmt:m=x.par.length:=by omega
                  subst hmt;rw[lT] at hst5;replace hst5:=iD hst5;go_wp2_with fail;exact⟨⟨q,(q:Int) - 1,Y6 N us x.par,o2,by omega,rfl,rfl,hst5.out,hf2.out,hoo2.out,hol2⟩,by simp[intOf]⟩
end Go.Proofs.YtfdimggmljkkbaaGreatDoor
end
section
set_option maxRecDepth 100000
set_option maxHeartbeats 16000000
open Go.Lib renaming hid → iD
open Go.Proofs.Tryz
namespace Go.Proofs.YtfdimggmljkkbaaGreatDoor
open Go.RowKit
theorem Zn5(hS:Uy)(N:List PNd)(hN:NdOk N)(hri:∀ x ∈ N,rises x.par=true)(ids:List Str)(hids:∀ d ∈ ids,∃ (j:Nat) (y:PNd),N[j]?=some y/\y.id=d)(hio:hOk ids)(hil:ids.length<=1000)(NV IV:Value)(ok:Nat->Prop)(w:World)(hNV:NdsIs w ok NV N)(hI:Z7 w ok IV ids) :
  Calls lC 69 #[NV,IV] w fun e w'=>∃ v,e=.returned (.tuple #[v,.int .i64 0])/\w'.ownsRow w.heap.size 47 32 v (Vl N (Y6 N (lB N.length false) ids)).length (Zy (Vl N (Y6 N (lB N.length false) ids)))/\Below w.heap.size w w':=by
 have hNl:=hN.len;have hNb:=iD (fun W (hb:Below w.heap.size w W)=>hNV.stayB hb);have hIb:=iD (fun W (hb:Below w.heap.size w W)=>hI.stayB hb);have hMk:=iD (Qc hN);obtain⟨NA,nc,hNVe,_⟩:=hNV.row;have hI':=hI;obtain⟨IA,ic,hIVe,_,_⟩:=hI';subst hNVe;subst hIVe;have hal:Below w.heap.size w (w.alloc (.cells #[.slice IA ids.length ic] 37)):=bL;have hbe:=iD (Zn1 N hN hri (.slice NA N.length nc) ok w.heap.size 1 1 [.slice IA ids.length ic] [] rfl (by omega) (w.alloc (.cells #[.slice IA ids.length ic] 37)) (hNV.stayB hal) (Blk.new_at (cs:=[.slice IA ids.length ic]) rfl) (fun v hv=>by
  obtain rfl:v=.slice IA ids.length ic:=by simpa using hv
  exact⟨ids,hI.stayB hal,hio,by omega,hids⟩))
 have hz1:(w.alloc (.cells #[.slice IA ids.length ic] 37)).heap.size=w.heap.size+1:=by simp
 rw[hz1] at hbe;have hmk:=Z1z N.length (by omega);have hrep:lU N.length (lD false)=((lB N.length false).map lD).toArray:=by simp
 replace hrep:=iD hrep;replace hS:=iD hS;replace hN:=iD hN;replace hids:=iD hids;obtain⟨mk,hmk0⟩:∃ mk,mk=Y6 N (lB N.length false) ids:=⟨_,rfl⟩;rw[<-hmk0];replace hmk0:=iD hmk0;clear hNV hI hal hri;go_enter func69,ntmps69;go_upto_region 1 with fail;refine wp_region_lit ?_;refine G4 (.move (.tmp 0)) rfl rfl (.slice NA N.length nc) rfl ?_;go_frame;refine G4 (.move (.tmp 1)) rfl rfl (.slice IA ids.length ic) rfl ?_;go_frame;refine Ke rfl _ (Uk 237 (.tmp 13) rfl (.slice IA ids.length ic) _ rfl (Zko _ _ _ w)) ?_;go_frame;go_wp2_with fail;refine hbe.out.mono ?_;rintro e w1 ⟨k,b,sb,rfl,hL1,hk,hb,hs,hb1⟩;have hb01:Below w.heap.size w w1:=((lE _ _).alloc (lA _) (.cells #[.slice IA ids.length ic] 37)).trans (hb1.mono (by omega));clear hbe hb1 hz1;replace hL1:=iD hL1;replace hb01:=iD hb01;go_upto_region 5 with fail;rw[hrep.out];generalize hW2:lM w1 _=w2;have hb2:Below w1.heap.size w1 w2:=by rw[<-hW2];exact bL
 have hT2:Blk w2 w1.heap.size 4 ((lB N.length false).map lD):=by rw[<-hW2];exact Blk.new_at (cs:=(lB N.length false).map lD) rfl
 have hL2:=hL1.out.below hb2;have hb02:=hb01.out.trans (hb2.mono hb01.out.size);have hw01:=hb01.out.size;have hkl:k<w1.heap.size/\b<w1.heap.size:=⟨hL1.out.look.lt,hL1.out.by_.lt⟩;clear hW2 hmk;replace hL2:=iD hL2;replace hb2:=iD hb2;replace hb02:=iD hb02;go_wp2_with fail;go_loopw [26] (fun i wr=>∃ (m:Nat) (us:List Bool),m<=ids.length/\i=.int .i64 (m:Int)/\us=Y6 N (lB N.length false) (ids.take m)/\Blk wr w1.heap.size 4 (us.map lD)/\Below w1.heap.size w1 wr) (fun i _=>ids.length - (intOf i).toNat)
 case atStart=>exact⟨0,_,lS _,rfl,rfl,hT2,hb2.out⟩
 case round =>
  obtain⟨m,us,hm,rfl,hus,hU,hbr⟩:=hrel;have hb0r:=hb01.out.trans (hbr.mono hw01);have hul:us.length=N.length:=by rw[hus,Ot,List.length_replicate]
  clear hT2;by_cases hlt:m<ids.length
  ·obtain⟨ib,io,hIA,_,hbl,hc1⟩:=(hIb.out _ hb0r).dig hio m hlt;subst hIA;obtain⟨d,hd⟩:∃ d,d=ids[m]:=⟨_,rfl⟩;have hdl':d.length=32:=by rw[hd];exact hio _ (lF _)
   obtain⟨j,y,hj,hy⟩:=hids.out d (by rw[hd];exact lF _);have hjn:j<N.length:=(l6.1 hj).1;have hix:ixD N d=j:=by rw[<-hy];exact Kf hN.out hj
   rw[<-hd] at hc1;have hnx:us.set j true=Y6 N (lB N.length false) (ids.take (m+1)):=by
    rw[l7 hlt,Z0m,<-hus,<-hd,hix]
   have i1:(0:Int)<=(m:Int):=by omega
   have i2:(m:Int)<(ids.length:Int):=by omega
   have k1:(0:Int)<=(j:Int):=by omega
   have k2:(j:Int)<(N.length:Int):=by omega
   have hMm:=iD (Qo hj);have hMu:=iD (Qp hN.out hj);rw[hy] at hMm hMu;replace hnx:=iD hnx;replace hus:=iD hus;replace hc1:=iD hc1;replace hd:=iD hd;replace hix:=iD hix;replace hU:=iD hU;replace hbr:=iD hbr;replace hb0r:=iD hb0r;go_upto_region 8 with (first
    | (refine lK rfl 47 (.tmp 28) rfl ib (io+m*32) rfl (d.map B) _ (fun j v hv=>hc1.out j v hv) underlying47 rfl (Za hdl') ?_;go_frame)
    | (refine Zo rfl 47 (.tmp 10) (.tmp 29) rfl wr.heap.size (d.map B) rfl rfl 47 Z3 (Blk.new_at rfl) (by simp[hdl',Z3]) (Za hdl') (Yk _) ?_;go_frame)
    | fail)
   generalize hw1:lO _ wr.heap.size (d.map B).toArray=w9;have hB9:Blk w9 wr.heap.size 47 (d.map B):=by
    rw[<-hw1];exact (Blk.new_at (w:=wr) (t:=47) (cs:=Z3) rfl).setRow_same (d.map B)
   have hb9:Below wr.heap.size wr w9:=by
    rw[<-hw1];exact below_setRow ((lE wr.heap.size wr).alloc (lA _) (.cells Z3.toArray 47)) (lA _) (d.map B).toArray
   have hU9:=hU.out.below hb9 hU.out.lt;have hbr9:=hbr.out.trans (hb9.mono hbr.out.size);have hL9:=hL1.out.below hbr9;have l1:w9.cell? ⟨k,1,none⟩=some (.map (some b)):=hL9.look.cell 1;have hD9:Hid (∀ w',(∃ n,w'=w9.drewN n)->Blk w' wr.heap.size 47 (d.map B)):=iD (by rintro _ ⟨n,rfl⟩;exact hB9.drewN n);have hrun:Hid (∀ w',(∃ n,w'=w9.drewN n)->(l8 26 (.map (some b)) (.agg (d.map B).toArray) false).run lC w'=.ok (.int .i64 (j:Int)) w'):=iD (by
    rintro _ ⟨n,rfl⟩;have hM5:Zg (w9.drewN n) b (byN N):=hL9.by_.block rfl;exact hM5.look_some Xz underlying26 hMk.out (Jm d hdl') hMm.out hMu.out false)
   clear hw1 hb9 hB9 hL9;replace hU9:=iD hU9;replace hbr9:=iD hbr9;refine Ye 7 (by kernel_rfl) (by kernel_rfl) ?_;simp only[l9,nA,nB,nC];repeat (first
    | go_big_quiet_step (fail)
    | (refine Yf 47 (.tmp 10) rfl rfl wr.heap.size 0 rfl 47 (d.map B) (d.map B) [] hD9.out (by simp) _ underlying47 rfl (Za hdl') ?_;go_frame)
    | (refine Yp (.lookup 26 (.tmp 34) (.tmp 35) false) rfl rfl (.int .i64 (j:Int)) (fun w' hw'=>Jk 26 (.tmp 34) (.tmp 35) false rfl _ _ _ rfl rfl (hrun.out w' hw')) ?_;go_frame))
   refine lV ?_;rintro _ ⟨nq,rfl⟩;have hbq:Below w9.heap.size w9 (w9.drewN nq):=(Touch.drewN (L:=[]) nq).below (lA _) (fun _ hi=>by cases hi);have hUq:=hU9.out.drewN nq;have hbrq:=hbr9.out.trans (hbq.mono hbr9.out.size);generalize w9.drewN nq=w10 at hUq hbrq ⊢;have hjb:j<us.length:=by omega
   have s0:w10.cell? ⟨w1.heap.size,j,none⟩=some (.bool us[j]):=by rw[hUq.cell];simp[hjb]
   have sf:=hUq.frozen j;have hset:=iD (hUq.set_ j (.bool true));have hbs:=iD (hbrq.setCell (p:=⟨w1.heap.size,j,none⟩) (lA _) (.bool true));clear hUq hrun hD9 l1 hU9 hbq hbrq;go_wp2_with fail;refine⟨⟨m+1,us.set j true,by omega,by go_num,hnx.out,?_,hbs.out⟩,by simp[intOf];omega⟩;rw[l2];exact hset.out
  ·have hmt:m=ids.length:=by omega
   subst hmt;rw[lT,<-hmk0.out] at hus;subst hus;have hLr:=hL1.out.below hbr;have hcall:=iD (Zn4 hS.out N hN.out us hul k b sb w1.heap.size N.length (.slice NA N.length nc) ok wr (hNb.out _ hb0r) hLr hU);replace hU:=iD hU;replace hbr:=iD hbr;replace hb0r:=iD hb0r;replace hmk0:=iD hmk0;clear hLr;go_wp2_with fail;refine hcall.out.mono ?_;rintro e w6 ⟨v,rfl,hrow,hb6⟩;have hb06:=hb0r.out.trans (hb6.mono hb0r.out.size);have hrow':=Oh hb0r.out.size hrow;clear hcall hrow hb6;replace hrow':=iD hrow';replace hb06:=iD hb06;go_wp2_with fail;go_returns;exact⟨_,rfl,hrow'.out,hb06.out⟩
end Go.Proofs.YtfdimggmljkkbaaGreatDoor
end
section
open Go.Proofs.Tryz
namespace Go.Proofs
open Go.Shelf
def Tryz.sortD_ren:Go.Shelf.Ren:=⟨fun | 6=>198 | 15=>204 | 14=>243 | 28=>255 | 29=>256 | 20=>267 | 21=>268 | 22=>269 | 23=>270 | 24=>271 | 25=>272 | 26=>273 | 27=>274 | 46=>296 | 47=>280 | 48=>281 | 49=>297 | 50=>298 | 57=>308 | n=>n,fun | 22=>37 | 24=>47 | 25=>305 | 3=>3 | 39=>277 | 0=>0 | 53=>279 | 55=>287 | 4=>4 | 46=>357 | 45=>356 | 50=>148 | 5=>5 | 9=>9 | 66=>379 | 70=>383 | 76=>399 | 77=>400 | n=>n,fun | n=>n⟩
theorem Tryz.sortD:Go.Proofs.SlLaysF0.n6 lC Tryz.sortD_ren:={
 mixed:=by kernel_rfl
 f6:=⟨Tryz.f198.name,by decide,func198.trans (congrArg some (by kernel_rfl))⟩
 f14:=⟨Tryz.f243.name,by decide,func243.trans (congrArg some (by kernel_rfl))⟩
 f15:=func204.trans (congrArg some (by kernel_rfl))
 f20:=⟨Tryz.f267.name,by decide,func267.trans (congrArg some (by kernel_rfl))⟩
 f21:=⟨Tryz.f268.name,by decide,func268.trans (congrArg some (by kernel_rfl))⟩
 f22:=⟨Tryz.f269.name,by decide,func269.trans (congrArg some (by kernel_rfl))⟩
 f23:=⟨Tryz.f270.name,by decide,func270.trans (congrArg some (by kernel_rfl))⟩
 f24:=⟨Tryz.f271.name,by decide,func271.trans (congrArg some (by kernel_rfl))⟩
 f25:=⟨Tryz.f272.name,by decide,func272.trans (congrArg some (by kernel_rfl))⟩
 f26:=⟨Tryz.f273.name,by decide,func273.trans (congrArg some (by kernel_rfl))⟩
 f27:=⟨Tryz.f274.name,by decide,func274.trans (congrArg some (by kernel_rfl))⟩
 f28:=func255.trans (congrArg some (by kernel_rfl))
 f29:=func256.trans (congrArg some (by kernel_rfl))
 f46:=⟨Tryz.f296.name,by decide,func296.trans (congrArg some (by kernel_rfl))⟩
 f47:=func280.trans (congrArg some (by kernel_rfl))
 f48:=func281.trans (congrArg some (by kernel_rfl))
 f49:=⟨Tryz.f297.name,by decide,func297.trans (congrArg some (by kernel_rfl))⟩
 f50:=⟨Tryz.f298.name,by decide,func298.trans (congrArg some (by kernel_rfl))⟩
 f57:=⟨Tryz.f308.name,by decide,func308.trans (congrArg some (by kernel_rfl))⟩
 t0:=underlying0
 a0:=isAgg0
 z0:=sizeOf0
 v0:=zeroValue0
 t3:=underlying3
 a3:=isAgg3
 z3:=sizeOf3
 v3:=zeroValue3
 t4:=underlying4
 a4:=isAgg4
 z4:=sizeOf4
 v4:=zeroValue4
 t5:=underlying5
 a5:=isAgg5
 z5:=sizeOf5
 v5:=zeroValue5
 t9:=underlying9
 a9:=isAgg9
 z9:=sizeOf9
 v9:=zeroValue9
 t22:=underlying37
 a22:=isAgg37
 z22:=sizeOf37
 v22:=zeroValue37
 t25:=underlying305
 a25:=isAgg305
 z25:=sizeOf305
 v25:=zeroValue305
 t39:=underlying277
 a39:=isAgg277
 z39:=sizeOf277
 v39:=zeroValue277
 t45:=underlying356
 a45:=isAgg356
 z45:=sizeOf356
 v45:=zeroValue356
 t46:=underlying357
 a46:=isAgg357
 z46:=sizeOf357
 v46:=zeroValue357
 t50:=underlying148
 a50:=isAgg148
 z50:=sizeOf148
 v50:=zeroValue148
 t53:=underlying279
 a53:=isAgg279
 z53:=sizeOf279
 v53:=zeroValue279
 t55:=underlying287
 a55:=isAgg287
 z55:=sizeOf287
 v55:=zeroValue287
 t66:=underlying379
 a66:=isAgg379
 z66:=sizeOf379
 v66:=zeroValue379
 t70:=underlying383
 a70:=isAgg383
 z70:=sizeOf383
 v70:=zeroValue383
 t76:=underlying399
 a76:=isAgg399
 z76:=sizeOf399
 v76:=zeroValue399
 t77:=underlying400
 a77:=isAgg400
 z77:=sizeOf400
 v77:=zeroValue400 }
end Go.Proofs
end
section
set_option maxHeartbeats 1000000
open Go.Proofs.Tryz
namespace Go.Proofs.YtfdimggmljkkbaaGreatDoor
open Go.RowKit
abbrev D32:={ s:Str // s.length=32 }
instance : Inhabited D32:=⟨⟨lB 32 0,by simp⟩⟩
def Jf(x:D32):List Value:=x.1.map B
theorem Ze4(x:D32):(Jf x).length=32:=by unfold Jf;rw[lP];exact x.2
def Gr(x y:D32):Int:=Z27 x.1 y.1
theorem ltD(x y:D32):ltOf Gr x y=Ze x.1 y.1:=by
 unfold ltOf Gr Z27;cases Ze x.1 y.1 with
 | true=>simp
 | false =>
  rw[if_neg (by decide)];cases x.1 == y.1 <;> simp
theorem swoD:Sort.SWO (ltOf Gr) where
 irrefl x:=by rw[ltD];exact G5 _
 trans x y z h1 h2:=by rw[ltD] at *;exact Qv _ _ _ h1 h2
 ntrans x y z h1 h2:=by
  rw[ltD] at *;cases h:Ze x.1 z.1 with
  | false=>rfl
  | true =>
   exfalso
   cases h3:Ze y.1 x.1 with
   | true =>
    have:=Qv _ _ _ h3 h;rw[this] at h2;cases h2
   | false =>
    have:=O6 _ _ h1 h3;rw[<-this,h] at h2;cases h2
theorem Zoz(w:World):(isAgg 47).run lC w=.ok true w:=by simp[isAgg,run_underlying underlying47]
def toD:(l:List Str)->(h:∀ d ∈ l,d.length=32)->List D32
 | [],_=>[]
 | d :: l,h=>⟨d,h d (by simp)⟩ :: toD l (fun e he=>h e (by simp[he]))
theorem Z7l:∀ (l:List Str) (h:∀ d ∈ l,d.length=32),(toD l h).map lG=l
 | [],_=>rfl
 | d :: l,h=>by simp only[toD,List.map_cons,Z7l l]
theorem Zp0(l:List Str)(h:∀ d ∈ l,d.length=32):(toD l h).length=l.length:=by
 have:=congrArg List.length (Z7l l h);simpa using this
theorem Ze5(d:List D32)(j:Nat)(hj:j<d.length*32):(Zy (d.map lG))[j]?=some ((lH Jf 32 d.toArray)[j]!):=by
 have h1:(lH Jf 32 d.toArray)[j]! = (Jf (d.toArray[j / 32]!))[j % 32]!:=Sort.get_flatK Jf 32 d.toArray j (by simpa using hj);have hk:j / 32<d.length:=by omega
 have hok:hOk (d.map lG):=fun s hs=>by
  obtain⟨x,_,rfl⟩:=lR.1 hs;exact x.2
 have h2:(d.toArray[j / 32]!)=d[j / 32]:=by simp[hk]
 rw[h1,h2];have h3:j % 32<(Jf d[j / 32]).length:=by rw[Ze4];omega
 have h4:(Jf d[j / 32])[j % 32]?=some ((Jf d[j / 32])[j % 32]!):=by rw[lI h3,List.getElem!_eq_getElem?_getD,lI h3];rfl
 have h5:=Z4v hok (j / 32) (by simpa using hk) (j % 32) ((Jf d[j / 32])[j % 32]!) (by rw[List.getElem_map];exact h4)
 rwa [show j / 32*32+j % 32=j by omega] at h5
theorem Zp1(d:List D32):(d.mergeSort fun x y=>!(ltOf Gr) y x).map lG=Jv (d.map lG):=by
 unfold Jv;exact List.map_mergeSort (fun a _ b _=>by rw[ltD])
theorem Z4b:Uy:=by
 intro l hl hn base v w hrow hbase;rcases hrow.2 with ⟨rfl,h0⟩ | ⟨g,cap,cur,rfl,hg,hh,hc1,hc2,hc3,hc4⟩
 ·have hl0:l=[]:=List.eq_nil_of_length_eq_zero h0;subst hl0;refine (Zht none 0 _ w).mono ?_;rintro e w' ⟨rfl,hb⟩;have hs0:Jv ([]:List Str)=[]:=by unfold Jv;simp
  rw[hs0];exact⟨rfl,⟨rfl,.inl ⟨rfl,rfl⟩⟩,hb.mono hbase⟩
 ·have hB:Blk w g 47 cur.toList:=by unfold Blk;simpa using hh
  obtain⟨d,hd⟩:∃ d,d=toD l hl:=⟨_,rfl⟩;have hdm:d.map lG=l:=by rw[hd];exact Z7l l hl
  have hdl:d.length=l.length:=by rw[hd];exact Zp0 l hl
  have eg:∀ args w,(callFunc 199 args).run lC w=.ok (.enter 199 args) w:=enters_of func199 (by kernel_rfl) rfl;have hH:Sort.HoldsK Jf 32 w g 0 d.toArray:=by
   intro j hj;have hj':j<d.length*32:=by simpa using hj
   refine⟨?_,?_⟩
   ·rw[Nat.zero_add];show w.cell? ⟨g,j,none⟩=_;rw[hB.cell];have h1:=Ze5 d j hj';rw[hdm,<-hc4,lN,if_pos (by omega)] at h1;exact h1
   ·exact hB.frozen _
  have hcmp:CmpLays lC 199 #[] Jf 32 Gr g 0 d.toArray.size w:=fun m os dk _ x y=>Zn3 x.1 y.1 x.2 y.2 _;have hcon:=AnyQ.slices_SortFunc_total Tryz.sortD 32 Zoz (fun w=>by kernel_rfl) Jf Ze4 (fun x v hv=>by
   unfold Jf at hv;exact Yk _ v hv) Gr swoD 199 #[] g 0 cap d.toArray w eg hcmp hH hB.lt (by simp;omega) (fun x y h1 h2=>by
    rw[ltD] at h1 h2;exact Subtype.ext (O6 _ _ h1 h2))
  have hsz:d.toArray.size=l.length:=by simpa using hdl
  rw[hsz] at hcon;refine Calls.mono hcon ?_;rintro e w' ⟨rfl,n,os,rfl⟩;obtain⟨S,hS⟩:∃ S,S=d.toArray.toList.mergeSort fun x y=>!(ltOf Gr) y x:=⟨_,rfl⟩;rw[<-hS];rw[List.toList_toArray] at hS;have hSm:S.map lG=Jv l:=by rw[hS,Zp1,hdm]
  have hSl:S.length=l.length:=by rw[hS,List.length_mergeSort,hdl]
  clear hcon;have hgl:g<w.heap.size:=hB.lt;have hheap:∀ k,k<w.heap.size->(sortWorldK Jf 32 w g 0 n S.toArray os).heap[k]?=(w.heap.modify g (lW (lJ id 0 (lH Jf 32 S.toArray))))[k]?:=fun k hk=>by
   show (w.heap.modify g (lW (lJ id 0 (lH Jf 32 S.toArray)))++os)[k]?=_;rw[Array.getElem?_append_left (by simpa using hk)]
  refine⟨rfl,⟨?_,.inr ⟨g,cap,lJ id 0 (lH Jf 32 S.toArray) cur,rfl,hg,?_,hc1,hc2,?_,?_⟩⟩,⟨rfl,rfl,rfl,?_,fun k hk=>?_⟩⟩
  ·rw[Vx (fun x hx=>hl x ((Z45 l x).1 hx)),Z44]
  ·rw[hheap g hgl,nD,if_pos rfl,hh];rfl
  ·rw[<-hc3];simp[lJ]
  ·rw[<-hSm];apply List.ext_getElem?;intro j;rw[lN];by_cases hj:j<l.length*32
   ·rw[if_pos hj,Ze5 S j (by omega)];have hjc:j<cur.size:=by rw[hc3];omega
    have hjf:j<(lH Jf 32 S.toArray).size:=by rw[Sort.size_flatK];simp[hSl];omega
    simp[lJ,hjc,hSl,hj]
   ·rw[if_neg hj]
    symm
    rw[List.getElem?_eq_none_iff,Vx (fun x hx=>by obtain⟨y,_,rfl⟩:=lR.1 hx;exact y.2),lP,hSl];omega
  ·show w.heap.size<=(w.heap.modify g (lW (lJ id 0 (lH Jf 32 S.toArray)))++os).size;simp
  ·rw[hheap k (by omega),nD,if_neg (by omega)]
end Go.Proofs.YtfdimggmljkkbaaGreatDoor
end
