import Derived.Test.YtfdimggmljkkbaaGreatDoorP30
import Derived.Test.YtfdimggmljkkbaaGreatDoorP31
open Bool renaming and_eq_true → lS, not_eq_true' → lT, or_eq_true → nE, not_false → nS, true_and → nT
open Go renaming wpQuiet_nil → lI, wpList_load_mid → l4
open Go.Instr renaming lookup → l9
open Go.IntWalk renaming i64_in → nA
open Go.Obj renaming cells → lZ
open Go.Proofs.Tryz renaming prog → lB
open Go.RowKit.Below renaming refl → lE
open Go.Value renaming bool → lU, slice → lX, oneCell' → l5
open Go.World renaming alloc → lH, setRow → lV
open List renaming getElem?_eq_getElem → lC, replicate → lF, getElem?_eq_some_iff → lG, take_length → lK, length_append → lL, length_map → lN, getElem_mem → lO, take_succ_eq_append_getElem → lP, length_take → lQ, mem_cons → lR, mem_of_getElem? → lW, getElem?_append_right → lY, mem_append → l6, mem_map → l7, mem_singleton → l8, nil_append → nB, getD_eq_getElem?_getD → nC, cons_append → nD, mem_of_find?_eq_some → nF, map_append → nG, getElem?_take → nH, map_cons → nI, map_nil → nJ, pairwise_cons → nK, getElem?_replicate → nL, length_replicate → nM, getElem?_append_left → nN, getElem_of_mem → nP, append_nil → nR
open Nat renaming le_refl → lA, le_trans → lD, zero_le → lJ, eq_zero_or_pos → nO, zero_add → nQ
open Option.some renaming inj → lM
namespace Go.Proofs.YtfdimggmljkkbaaGreatDoor
section
set_option maxRecDepth 100000
set_option maxHeartbeats 16000000
open Go.Lib renaming hid → iD
open Go.Proofs.Tryz
open Go.RowKit
def Q3:Prop:=∀ (L:List PCom) (lo:Nat) (ok:Nat->Prop) (v:Value) (w:World),L.length<=100000->Yh w lo (fun b=>ok b/\b<lo) v L->lo<=w.heap.size ->
 Calls lB 148 #[v] w fun e w'=>e=.returned (.tuple #[])/\Yh w' lo (fun b=>ok b/\b<lo) v L.reverse/\Below lo w w'
theorem Yh.lowKeep{w w':World}{lo:Nat}{ok:Nat->Prop}{xs:List (List Value)}{L:List PCom}(h:Y7 w (fun b=>ok b/\b<lo) xs L)(hb:Below lo w w'):Y7 w' (fun b=>ok b/\b<lo) xs L:=h.stay (fun b hb' _=>hb.block b hb'.2) (fun _ h _=>h)
structure KbSt (w W:World) (ok:Nat->Prop) (ub:Nat) (ov:Value) (us:List Bool) (rs:List PCom) (n:Nat):Prop where
 below:Below w.heap.size w W
 U:Blk W ub 4 (us.map lU)
 lo:w.heap.size<=ub
 len:us.length=n
 row:Yh W w.heap.size (fun b=>ok b/\b<w.heap.size) ov rs
theorem KbSt.calm{w W W':World}{ok:Nat->Prop}{ub:Nat}{ov:Value}{us:List Bool}{rs:List PCom}{n:Nat}(h:KbSt w W ok ub ov us rs n)(hb:Below W.heap.size W W'):KbSt w W' ok ub ov us rs n :=
 ⟨h.below.trans (hb.mono h.below.size),h.U.below hb h.U.lt,h.lo,h.len,h.row.keepB hb⟩
theorem KbSt.set{w W:World}{ok:Nat->Prop}{ub:Nat}{ov:Value}{us:List Bool}{rs:List PCom}{n:Nat}(h:KbSt w W ok ub ov us rs n)(j:Nat):KbSt w (W.setCell ⟨ub,j,none⟩ (.bool true)) ok ub ov (us.set j true) rs n:=by
 obtain⟨xs,hx,ho⟩:=h.row;have ht:Touch [ub] W (W.setCell ⟨ub,j,none⟩ (.bool true)):=Touch.setCell (L:=[ub]) _ (by simp);refine⟨h.below.setCell h.lo _,by rw[List.map_set];exact h.U.set_ j _,h.lo,by rw[List.length_set];exact h.len,xs,hx.stay (fun b hb hl=>ht.block b hl (fun hm=>?_)) (fun _ h _=>h),Zk ho ht (fun g hg hm=>?_)⟩
 ·have:=h.lo;have:=hb.2;simp at hm;omega
 ·obtain⟨cs,hB⟩:=Q2 ho hg;obtain rfl:g=ub:=by simpa using hm
  exact hB.ne_ h.U (by decide) rfl
theorem Zn6(hRev:Q3)(L:List PCom)(hH:HistOk L)(ids:List Str)(hids:InN (Z5 L) ids)(hio:hOk ids)(hil:ids.length<=1000)(r by_:Nat)(LV IV:Value)(ok okI:Nat->Prop)(w:World)
  (c0:w.cell? ⟨r,0,none⟩=some LV) (c1:w.cell? ⟨r,1,none⟩=some (.map (some by_))) (hL:CsIs w ok LV L) (hM:Zg w by_ (byN (Z5 L))) (hI:Z7 w okI IV ids) :
  Calls lB 75 #[.pointer (some ⟨r,0,none⟩),IV] w fun e w'=>∃ V,e=.returned (.tuple #[V,.bool true])/\Yh w' w.heap.size (fun b=>ok b/\b<w.heap.size) V (Zi L ids)/\Below w.heap.size w w':=by
 have hNok:=hH.ndsAll;have hlen:=hH.len;have hfit:=hH.fit;have hNl:(Z5 L).length=L.length:=by unfold Z5;rw[lN]
 have hndm:∀ (m:Nat) (c:PCom),L[m]?=some c->(Z5 L)[m]?=some (Jc c):=fun m c hc=>Kg hc;have hbnl:Zv (Z5 L) ids=Xh (Z5 L) (Z5 L).length (Y6 (Z5 L) (lF (Z5 L).length false) ids):=rfl;unfold Zi;obtain⟨N,hN⟩:∃ N,N=Z5 L:=⟨_,rfl⟩;rw[<-hN] at hids hM hNok hNl hndm hbnl ⊢;rw[hNl] at hbnl;obtain⟨bn,hbn⟩:∃ bn,bn=Zv N ids:=⟨_,rfl⟩;rw[<-hbn] at hbnl ⊢;obtain⟨fin,hfin⟩:∃ fin,fin=Yb L bn L.length:=⟨_,rfl⟩;rw[<-hfin];replace hfin:=iD hfin;have hrl:=World.block_lt_of_cell? _ _ c0;have hcw:=iD (fun W (hb:Below w.heap.size w W)=>show W.cell? ⟨r,0,none⟩=some LV/\W.cell? ⟨r,1,none⟩=some (.map (some by_)) from ⟨(hb.cell (p:=⟨r,0,none⟩) hrl).trans c0,(hb.cell (p:=⟨r,1,none⟩) hrl).trans c1⟩);have hLb:=iD (fun W (hb:Below w.heap.size w W)=>hL.stayB hb);have hMb:=iD (fun W (hb:Below w.heap.size w W)=>hM.below hb hM.lt);have hIb:=iD (fun W (hb:Below w.heap.size w W)=>hI.stayB hb);have hMk:=iD (Qc hNok);obtain⟨LA,lc,hLVe,_⟩:=hL.row;obtain⟨IA,ic,hIVe,_,_⟩:=id hI;subst hLVe;subst hIVe;have hmk:=Z1z L.length (by omega);have hrep:Array.replicate L.length (lU false)=((lF L.length false).map lU).toArray:=by simp
 replace hrep:=iD hrep;replace hNok:=iD hNok;replace hids:=iD hids;replace hN:=iD hN;replace hbn:=iD hbn;replace hNl:=iD hNl;replace hndm:=iD hndm;replace hbnl:=iD hbnl;replace hRev:=iD hRev;replace hfit:=iD hfit;clear hL hM hI;go_enter func75,ntmps75;go_upto_region 2 with fail;rw[hrep.out];generalize hW1:lH w _=w1;have hst1:Hid (KbSt w w1 ok w.heap.size Z2 (lF L.length false) [] L.length):=iD (by
  rw[<-hW1];exact⟨bL,Blk.new_at (cs:=(lF L.length false).map lU) rfl,lA _,by simp,Yh.nil⟩)
 clear hW1 hmk c0 c1;go_wp2_with fail;go_loopw [23] (fun i wr=>∃ (m:Nat) (us:List Bool),m<=ids.length/\i=.int .i64 (m:Int)/\us=Y6 N (lF L.length false) (ids.take m)/\KbSt w wr ok w.heap.size Z2 us [] L.length) (fun i _=>ids.length - (intOf i).toNat)
 case atStart=>exact⟨0,_,lJ _,rfl,rfl,hst1.out⟩
 case round =>
  obtain⟨m,us,hm,rfl,hus,hst⟩:=hrel;clear hst1;by_cases hlt:m<ids.length
  ·as_aux_lemma =>
    obtain⟨ib,io,hIA,_,hbl,hc1⟩:=(hIb.out _ hst.below).dig hio m hlt;subst hIA;obtain⟨d,hd⟩:∃ d,d=ids[m]:=⟨_,rfl⟩;have hdl':d.length=32:=by rw[hd];exact hio _ (lO _)
    obtain⟨j,y,hj,hy⟩:=hids.out d (by rw[hd];exact lO _);have hjn:j<L.length:=by rw[<-hNl.out];exact (lG.1 hj).1
    have hix:ixD N d=j:=by rw[<-hy];exact Kf hNok.out hj
    rw[<-hd] at hc1;have hnx:us.set j true=Y6 N (lF L.length false) (ids.take (m+1)):=by
     rw[lP hlt,Z0m,<-hus,<-hd,hix]
    have i1:(0:Int)<=(m:Int):=by omega
    have i2:(m:Int)<(ids.length:Int):=by omega
    have k1:(0:Int)<=(j:Int):=by omega
    have k2:(j:Int)<(L.length:Int):=by omega
    have hMm:=iD (Qo hj);have hMu:=iD (Qp hNok.out hj);rw[hy] at hMm hMu;replace hnx:=iD hnx;replace hus:=iD hus;replace hc1:=iD hc1;replace hd:=iD hd;replace hix:=iD hix;replace hst:=iD hst;go_upto_region 5 with (first
     | (refine l4 rfl 47 (.tmp 25) rfl ib (io+m*32) rfl (d.map B) _ (fun j v hv=>hc1.out j v hv) underlying47 rfl (Za hdl') ?_;go_frame)
     | (refine Zo rfl 47 (.tmp 8) (.tmp 26) rfl wr.heap.size (d.map B) rfl rfl 47 Z3 (Blk.new_at rfl) (by simp[hdl',Z3]) (Za hdl') (Yk _) ?_;go_frame)
     | fail)
    generalize hw1:lV _ wr.heap.size (d.map B).toArray=w9;have hB9:Blk w9 wr.heap.size 47 (d.map B):=by
     rw[<-hw1];exact (Blk.new_at (w:=wr) (t:=47) (cs:=Z3) rfl).setRow_same (d.map B)
    have hb9:Below wr.heap.size wr w9:=by
     rw[<-hw1];exact below_setRow ((lE wr.heap.size wr).alloc (lA _) (.cells Z3.toArray 47)) (lA _) (d.map B).toArray
    have hst9:=hst.out.calm hb9;have l1:w9.cell? ⟨r,1,none⟩=some (.map (some by_)):=(hcw.out _ hst9.below).2;have hD9:Hid (∀ w',(∃ n,w'=w9.drewN n)->Blk w' wr.heap.size 47 (d.map B)):=iD (by rintro _ ⟨n,rfl⟩;exact hB9.drewN n);have hrun:Hid (∀ w',(∃ n,w'=w9.drewN n)->(l9 26 (.map (some by_)) (.agg (d.map B).toArray) true).run lB w'=.ok (.tuple #[.int .i64 (j:Int),.bool true]) w'):=iD (by
     rintro _ ⟨n,rfl⟩;have hM5:Zg (w9.drewN n) by_ (byN N):=(hMb.out _ hst9.below).block rfl;exact hM5.look_some Xz underlying26 hMk.out (Jm d hdl') hMm.out hMu.out true)
    clear hw1 hb9 hB9;replace hst9:=iD hst9;refine wp_region_quiet_lit (by kernel_rfl) (by kernel_rfl) ?_;repeat (first
     | go_big_quiet_step (fail)
     | (refine Yf 47 (.tmp 8) rfl rfl wr.heap.size 0 rfl 47 (d.map B) (d.map B) [] hD9.out (by simp) _ underlying47 rfl (Za hdl') ?_;go_frame)
     | (refine Yp (.lookup 26 (.tmp 31) (.tmp 32) true) rfl rfl (.tuple #[.int .i64 (j:Int),.bool true]) (fun w' hw'=>Jk 26 (.tmp 31) (.tmp 32) true rfl _ _ _ rfl rfl (hrun.out w' hw')) ?_;go_frame))
    refine lI ?_;rintro _ ⟨nq,rfl⟩;have hbq:Below w9.heap.size w9 (w9.drewN nq):=(Touch.drewN (L:=[]) nq).below (lA _) (fun _ hi=>by cases hi);have hstq:=hst9.out.calm hbq;generalize w9.drewN nq=w10 at hstq ⊢;have hjb:j<us.length:=by rw[hstq.len];exact hjn
    have s0:w10.cell? ⟨w.heap.size,j,none⟩=some (.bool us[j]):=by rw[hstq.U.cell];simp[hjb]
    have sf:=hstq.U.frozen j;have hset:=iD (hstq.set j);clear hstq hrun hD9 l1 hst9 hbq;go_wp2_with fail;exact⟨⟨m+1,us.set j true,by omega,by go_num,hnx.out,hset.out⟩,by simp[intOf];omega⟩
  ·have hmt:m=ids.length:=by omega
   subst hmt;rw[lK] at hus;rw[<-hus] at hbnl;have l0:wr.cell? ⟨r,0,none⟩=some (.slice LA L.length lc):=(hcw.out _ hst.below).1;have gN:IntKind.i64.wrap ((L.length:Int) - 1)=(L.length:Int) - 1:=nA _ (by omega);replace hus:=iD hus;replace hst:=iD hst;go_wp2_with fail;clear l0;go_loopw [11,12] (fun ov iv wx=>∃ (i:Nat) (z:Int) (ux:List Bool) (rs:List PCom),i<=L.length/\z=(i:Int) - 1/\iv=.int .i64 z/\KbSt w wx ok w.heap.size ov ux rs L.length/\bn=Xh N i ux/\fin=Yb L bn i++rs.reverse/\rs.length+i<=L.length) (fun _ iv _=>((intOf iv)+1).toNat)
   case atStart=>exact⟨L.length,_,us,[],lA _,rfl,rfl,hst.out,hbnl.out,by rw[hfin.out];simp,by simp⟩
   case round =>
    obtain⟨i,z,ux,rs,hi,hz,rfl,hsx,hbx,hfx,hrl2⟩:=hrel;by_cases hi0:i=0
    ·as_aux_lemma =>
      have gz:decide ((0:Int)<=z)=false:=decide_eq_false (by omega);subst hi0;rw[Yb,nB] at hfx;have hrv:=iD (hRev.out rs w.heap.size ok u11 wr (by omega) hsx.row hsx.below.size);have hbw:=hsx.below.size;obtain⟨FA,fc,hFe⟩:=hsx.row.form;subst hFe;replace hsx:=iD hsx;replace hz:=iD hz;replace hfx:=iD hfx;replace hbx:=iD hbx;go_wp2_with fail;refine hrv.out.mono ?_;rintro e w4 ⟨rfl,hrow4,hb4⟩;have hbf:=hsx.out.below.trans hb4;replace hrow4:=iD hrow4;replace hbf:=iD hbf;clear hrv hb4;go_wp2_with fail;go_returns;exact⟨_,rfl,by rw[hfx.out];exact hrow4.out,hbf.out⟩
    ·obtain⟨q,hq⟩:∃ q,i=q+1:=⟨i - 1,by omega⟩;subst hq;obtain rfl:z=(q:Int):=by omega
     clear hz hi0;have hqn:q<L.length:=by omega
     obtain⟨c,hcq⟩:∃ c,L[q]?=some c:=⟨_,lC hqn⟩;have hxq:=hndm.out q c hcq;obtain⟨hxl,hpo,hp8⟩:=hNok.out.fit _ (lW hxq);have hp9:c.parents.length<=8:=hp8;have hback:=iD (hNok.out.back q _ hxq);have hpa:=Oy hxq;have hqu:q<ux.length:=by rw[hsx.len];exact hqn
     have hbq:bn[q]?=ux[q]?:=by rw[hbx];exact Zmq hNok.out q ux
     have gz:decide ((0:Int)<=(q:Int))=true:=decide_eq_true (by omega);have j1:(0:Int)<=(q:Int):=by omega
     have j2:(q:Int)<(L.length:Int):=by omega
     have gq:IntKind.i64.wrap ((q:Int) - 1)=(q:Int) - 1:=nA _ (by omega);have cu:wr.cell? ⟨w.heap.size,q,none⟩=some (.bool (ux.getD q false)):=by
      rw[hsx.U.cell];simp[List.getD,hqu]
     have hgd:bn.getD q false=ux.getD q false:=by rw[nC,nC,hbq]
     cases hbu:ux.getD q false with
     | false =>
      as_aux_lemma =>
       rw[hbu] at cu hgd;have hno:Yb L bn (q+1)=Yb L bn q:=Z75 (fun h=>by rw[Qf.2 h] at hgd;cases hgd);have hdn:bn=Xh N q ux:=by rw[hbx,Xh,if_neg (by rw[hbu];decide)]
       rw[hno] at hfx;replace hsx:=iD hsx;replace hfx:=iD hfx;replace hdn:=iD hdn;replace hbx:=iD hbx;replace hno:=iD hno;replace hpa:=iD hpa;replace hbq:=iD hbq;replace hgd:=iD hgd;replace hxq:=iD hxq;replace hcq:=iD hcq;replace hbu:=iD hbu;go_wp2_with fail;exact⟨⟨q,(q:Int) - 1,ux,rs,by omega,rfl,rfl,hsx.out,hdn.out,hfx.out,by omega⟩,by simp[intOf]⟩
     | true =>
      as_aux_lemma =>
       rw[hbu] at cu hgd;have hyes:Yb L bn (q+1)=Yb L bn q++[c]:=Z41 hcq (Qf.1 hgd);have hdn:bn=Xh N q (Y6 N ux c.parents):=by rw[hbx,Xh,if_pos hbu,hpa];rfl
       rw[hyes] at hfx;have hfx':fin=Yb L bn q++(rs++[c]).reverse:=by rw[hfx];simp
       obtain⟨_,_,he,hcom⟩:=(hLb.out _ (lE _ _)).row;obtain⟨cb,co,cs,hLA,hokc,hcbl,hCI,hcc⟩:=hcom q c hcq
       injection he with he1 _ he3
       subst he1;subst he3;subst hLA;have hcell:=iD (fun W (hb:Below w.heap.size w W) (j:Nat) (u:Value) (hj:cs[j]?=some u)=>(hb.cell (p:=⟨cb,co+q*4+j,none⟩) hcbl).trans (hcc j u hj));have hCIb:=iD (fun W (hb:Below w.heap.size w W)=>hCI.stayB hb);have hCIx:=iD (fun W (hb:Below w.heap.size w W)=>show Y8 W (fun b=>ok b/\b<w.heap.size) cs c from hCI.stay (fun b _ hl=>hb.block b hl) (fun b h hl=>⟨h,hl⟩));obtain⟨pv,ovv,rfl,hPV,hOV⟩:=hCI;have hPb:=iD (fun W (hb:Below w.heap.size w W)=>hPV.stayB hb);obtain⟨PA,pc,rfl,_,_⟩:=hPV;obtain⟨OA,oc,rfl,_,_⟩:=hOV;have l0:wr.cell? ⟨cb,co+q*4,none⟩=some (.slice PA c.parents.length pc):=hcell.out _ hsx.below 0 _ rfl;have l1:wr.cell? ⟨cb,co+q*4+1,none⟩=some (Z0 c.author):=hcell.out _ hsx.below 1 _ rfl;have l2:wr.cell? ⟨cb,co+q*4+2,none⟩=some (Z0 c.note):=hcell.out _ hsx.below 2 _ rfl;have l3:wr.cell? ⟨cb,co+q*4+3,none⟩=some (.slice OA c.ops.length oc):=hcell.out _ hsx.below 3 _ rfl;have k0:wr.cell? ⟨r,0,none⟩=some (.slice (some ⟨cb,co,none⟩) L.length lc):=(hcw.out _ hsx.below).1;unfold Z0 at l1 l2;obtain⟨xs,hxs,hrow⟩:=hsx.row;obtain⟨FA,fc,hFe,_,_⟩:=Z6 hrow;subst hFe;have hbw:=hsx.below.size;have hrsl:rs.length+1<=200:=by omega
       replace hxs:=iD hxs;replace hrow:=iD hrow;replace hsx:=iD hsx;replace hfx:=iD hfx;replace hfx':=iD hfx';replace hdn:=iD hdn;replace hbx:=iD hbx;replace hyes:=iD hyes;replace hpa:=iD hpa;replace hbq:=iD hbq;replace hgd:=iD hgd;replace hxq:=iD hxq;replace hcq:=iD hcq;replace hbu:=iD hbu;clear hcom hcc;go_upto_region 16 with (at_builtin;refine X0 _ rfl (.tmp 57) (.tmp 65) 25 rfl w.heap.size 82 _ 4 80 underlying25 Z67 (.slice FA rs.length fc) rs.length xs.flatten rfl (hrow.out.alloc _) (fun _=>True) (some ⟨wr.heap.size,0,none⟩) 1 1 [.slice PA c.parents.length pc,.string ⟨c.author.toArray⟩,.string ⟨c.note.toArray⟩,.slice OA c.ops.length oc] rfl rfl (Rd.of_blk (cs:=[.slice PA c.parents.length pc,.string ⟨c.author.toArray⟩,.string ⟨c.note.toArray⟩,.slice OA c.ops.length oc]) (r:=[]) (Blk.new_at rfl) rfl trivial) (by simp[l5]) (by unfold maxLen;omega) (by omega) (by simp;omega) ?_;intro v7 w7 hrow7 hg7 hv7;go_frame);have hal:Below wr.heap.size wr (wr.alloc (.cells #[.slice PA c.parents.length pc,.string ⟨c.author.toArray⟩,.string ⟨c.note.toArray⟩,.slice OA c.ops.length oc] 82)):=bL;have hb7:Below w.heap.size w w7:=hsx.out.below.trans ((hal.mono hbw).trans (Yd (hrow.out.alloc _) hg7 (by simp;omega)));have htt:Touch (lX FA rs.length fc).ownBlock.toList (wr.alloc (.cells #[.slice PA c.parents.length pc,.string ⟨c.author.toArray⟩,.string ⟨c.note.toArray⟩,.slice OA c.ops.length oc] 82)) w7:=Touch.grown hg7 (fun b hb=>by rw[hb];simp);have hst7:KbSt w w7 ok w.heap.size v7 ux (rs++[c]) L.length:=by
        have hUa:=hsx.out.U.below hal hsx.out.U.lt;refine⟨hb7,hUa.touch htt (fun hm=>?_),hsx.out.lo,hsx.out.len,?_⟩
        ·have hm':(lX FA rs.length fc).ownBlock=some w.heap.size:=by simpa using hm
         obtain⟨cs',hB'⟩:=Q2 hrow.out hm';exact hB'.ne_ hsx.out.U (by decide) rfl
        ·exact Yh.app (M:=[c]) (Yh.lowKeep (hxs.out.stayB hal) (Yd (hrow.out.alloc _) hg7 (by simp;omega))) (Y7.one (hCIx.out _ hb7)) hrow7
       clear hg7 hv7 hrow7 l0 l1 l2 l3 k0 htt hal;have k0:w7.cell? ⟨r,0,none⟩=some (.slice (some ⟨cb,co,none⟩) L.length lc):=(hcw.out _ hb7).1;have l0:w7.cell? ⟨cb,co+q*4,none⟩=some (.slice PA c.parents.length pc):=hcell.out _ hb7 0 _ rfl;replace hst7:=iD hst7;replace hb7:=iD hb7;clear hrow hxs;go_wp2_with fail;go_loopw [76] (fun iv wy=>∃ (m:Nat) (uy:List Bool),m<=c.parents.length/\iv=.int .i64 (m:Int)/\uy=Y6 N ux (c.parents.take m)/\KbSt w wy ok w.heap.size v7 uy (rs++[c]) L.length) (fun iv _=>c.parents.length - (intOf iv).toNat)
       case atStart=>exact⟨0,ux,lJ _,rfl,rfl,hst7.out⟩
       case round =>
        obtain⟨m,uy,hm,rfl,huy,hsy⟩:=hrel;clear hst7 hb7 k0 l0;by_cases hlt:m<c.parents.length
        ·as_aux_lemma =>
          obtain⟨ib,io,hPA,_,hbl,hc1⟩:=(hPb.out _ hsy.below).dig hpo m hlt;subst hPA;obtain⟨d,hd⟩:∃ d,d=c.parents[m]:=⟨_,rfl⟩;have hdl':d.length=32:=by rw[hd];exact hpo _ (lO _)
          obtain⟨j,y,hjq,hj,hy⟩:=hback.out d (by rw[hd];exact lO _);have hjn:j<L.length:=by omega
          have hix:ixD N d=j:=by rw[<-hy];exact Kf hNok.out hj
          rw[<-hd] at hc1;have hnx:uy.set j true=Y6 N ux (c.parents.take (m+1)):=by
           rw[lP hlt,Z0m,<-huy,<-hd,hix]
          have i1:(0:Int)<=(m:Int):=by omega
          have i2:(m:Int)<(c.parents.length:Int):=by omega
          have k1:(0:Int)<=(j:Int):=by omega
          have k2:(j:Int)<(L.length:Int):=by omega
          have hMm:=iD (Qo hj);have hMu:=iD (Qp hNok.out hj);rw[hy] at hMm hMu;replace hnx:=iD hnx;replace huy:=iD huy;replace hc1:=iD hc1;replace hd:=iD hd;replace hix:=iD hix;replace hsy:=iD hsy;go_upto_region 19 with (first
           | (refine l4 rfl 47 (.tmp 78) rfl ib (io+m*32) rfl (d.map B) _ (fun j v hv=>hc1.out j v hv) underlying47 rfl (Za hdl') ?_;go_frame)
           | (refine Zo rfl 47 (.tmp 14) (.tmp 79) rfl wr.heap.size (d.map B) rfl rfl 47 Z3 (Blk.new_at rfl) (by simp[hdl',Z3]) (Za hdl') (Yk _) ?_;go_frame)
           | fail)
          generalize hw1:lV _ wr.heap.size (d.map B).toArray=w9;have hB9:Blk w9 wr.heap.size 47 (d.map B):=by
           rw[<-hw1];exact (Blk.new_at (w:=wr) (t:=47) (cs:=Z3) rfl).setRow_same (d.map B)
          have hb9:Below wr.heap.size wr w9:=by
           rw[<-hw1];exact below_setRow ((lE wr.heap.size wr).alloc (lA _) (.cells Z3.toArray 47)) (lA _) (d.map B).toArray
          have hst9:=hsy.out.calm hb9;have l1:w9.cell? ⟨r,1,none⟩=some (.map (some by_)):=(hcw.out _ hst9.below).2;have hD9:Hid (∀ w',(∃ n,w'=w9.drewN n)->Blk w' wr.heap.size 47 (d.map B)):=iD (by rintro _ ⟨n,rfl⟩;exact hB9.drewN n);have hrun:Hid (∀ w',(∃ n,w'=w9.drewN n)->(l9 26 (.map (some by_)) (.agg (d.map B).toArray) false).run lB w'=.ok (.int .i64 (j:Int)) w'):=iD (by
           rintro _ ⟨n,rfl⟩;have hM5:Zg (w9.drewN n) by_ (byN N):=(hMb.out _ hst9.below).block rfl;exact hM5.look_some Xz underlying26 hMk.out (Jm d hdl') hMm.out hMu.out false)
          clear hw1 hb9 hB9;replace hst9:=iD hst9;refine Ye 8 (by kernel_rfl) (by kernel_rfl) ?_;simp only[List.take_succ_cons,List.take_zero,List.drop_succ_cons,List.drop_zero];repeat (first
           | go_big_quiet_step (fail)
           | (refine Yf 47 (.tmp 14) rfl rfl wr.heap.size 0 rfl 47 (d.map B) (d.map B) [] hD9.out (by simp) _ underlying47 rfl (Za hdl') ?_;go_frame)
           | (refine Yp (.lookup 26 (.tmp 84) (.tmp 85) false) rfl rfl (.int .i64 (j:Int)) (fun w' hw'=>Jk 26 (.tmp 84) (.tmp 85) false rfl _ _ _ rfl rfl (hrun.out w' hw')) ?_;go_frame))
          refine lI ?_;rintro _ ⟨nq,rfl⟩;have hbq2:Below w9.heap.size w9 (w9.drewN nq):=(Touch.drewN (L:=[]) nq).below (lA _) (fun _ hi=>by cases hi);have hstq:=hst9.out.calm hbq2;generalize w9.drewN nq=w10 at hstq ⊢;have hjb:j<uy.length:=by rw[hstq.len];exact hjn
          have s0:w10.cell? ⟨w.heap.size,j,none⟩=some (.bool uy[j]):=by rw[hstq.U.cell];simp[hjb]
          have sf:=hstq.U.frozen j;have hset:=iD (hstq.set j);clear hstq hrun hD9 l1 hst9 hbq2;go_wp2_with fail;exact⟨⟨m+1,uy.set j true,by omega,by go_num,hnx.out,hset.out⟩,by simp[intOf];omega⟩
        ·as_aux_lemma =>
          have hmt:m=c.parents.length:=by omega
          subst hmt;rw[lK] at huy;subst huy;replace hsy:=iD hsy;go_wp2_with fail;exact⟨⟨q,(q:Int) - 1,Y6 N ux c.parents,rs++[c],by omega,rfl,rfl,hsy.out,hdn.out,hfx'.out,by simp;omega⟩,by simp[intOf]⟩
end
section
open Go.RowKit
theorem Z28(S:DS):∀ (a b:List Call),Xa S (a++b)=if Xa S a=0 then Xa (Yv S a) b else Xa S a
 | [],b=>by simp[Xa,Yv]
 | c :: a,b=>by
  simp only[nD,Xa,Yv];by_cases h:c.errno S=0
  ·simp only[if_pos h];exact Z28 (c.turn S) a b
  ·simp only[if_neg h]
theorem Z29(S:DS):∀ (a b:List Call),Yv S (a++b)=if Xa S a=0 then Yv (Yv S a) b else Yv S a
 | [],b=>by simp[Xa,Yv]
 | c :: a,b=>by
  simp only[nD,Xa,Yv];by_cases h:c.errno S=0
  ·simp only[if_pos h];exact Z29 (c.turn S) a b
  ·simp only[if_neg h]
structure Roomy (S:DS) (n k m:Nat):Prop where
 inv:Inv S n
 off:S.off=false
 fuse:S.fuse = -1
 next:Zw S.now Zc=false
 room:(Yx S.now:Int)+k<=S.room
 files:Zs S.now+m<=600
theorem Inv.up{S:DS}{n n':Nat}(h:Inv S n)(hn:n<=n'):Inv S n':=⟨h.toGood,h.keys,h.keys',h.opn,lD h.len hn,h.re⟩
theorem Roomy.weak{S:DS}{n k m n' k' m':Nat}(h:Roomy S n k m)(hn:n<=n')(hk:k'<=k)(hm:m'<=m):Roomy S n' k' m' :=
 ⟨h.inv.up hn,h.off,h.fuse,h.next,by have:=h.room;omega,by have:=h.files;omega⟩
theorem Roomy.new{S:DS}(h:Live S none){k m:Nat}(hk:(k:Int)<=S.room)(hm:m<=600):Roomy S 0 k m:=by
 have h1:Yx S.now=0:=h.holds.sum;have h2:Zs S.now=0:=h.holds.len;exact⟨h.inv,h.off,h.fuse,h.holds.next,by omega,by omega⟩
theorem Roomy.write{S:DS}{n k m:Nat}{s t:Str}(h:Roomy S n (t.length+k) (m+1))(hn:n<4000000000000)(hs:Y1 s=true):(Call.write s t).errno S=0/\(Call.write s t).turn S=S.does (.write s t)/\Asked S/\Inv ((Call.write s t).turn S) (n+1) /\
  ((Call.write s t).turn S).off=false/\((Call.write s t).turn S).fuse = -1/\((Call.write s t).turn S).now=Zx S.now s t/\((Call.write s t).turn S).room=S.room:=by
 have hr:=h.room;have hf:=h.files;have e:(Call.write s t).err S=0:=by
  show (if Y1 s=true then (if Kw S s t=true then (14:Int) else 0) else 11)=0;rw[if_pos hs,if_neg];unfold Kw;simp only[nE,decide_eq_true_eq];rintro (h1 | h1)
  ·omega
  ·split at h1 <;> omega
 have t1:(Call.write s t).turn S=S.does (.write s t):=by rw[Z1r _ h.off h.fuse,e];rfl
 have i1:=h.inv.turn (Call.write s t);refine⟨(Z1q _ h.off h.fuse).trans e,t1,h.inv.asked (by omega),i1,by rw[t1];exact h.off,by rw[t1];exact h.fuse,?_,by rw[t1];rfl⟩;rw[t1];show Zx S.now s (O5 t 1)=_;rfl
theorem Roomy.obj{S:DS}{n k m:Nat}{s t:Str}(h:Roomy S n (t.length+k) (m+1))(hn:n<4000000000000)(hs:Y1 s=true)(hne:s ≠ Zc):(Call.write s t).errno S=0/\Asked S/\Roomy ((Call.write s t).turn S) (n+1) k m:=by
 obtain⟨h1,_,h2,h3,h4,h5,h6,h7⟩:=h.write hn hs;have hm:=h.inv.now;refine⟨h1,h2,h3,h4,h5,?_,?_,?_⟩
 ·rw[h6,Z4o (Ne.symm hne)];exact h.next
 ·rw[h6,h7];have:=Z0v hm s t;have:=h.room;omega
 ·rw[h6];have:=Z4q (k:=s) (t:=t) hm;have:=h.files;omega
structure RoomDo (S:DS) (t:Str) (k m:Nat):Prop where
 e:Xa S (J8 t)=0
 a0:Asked S
 a1:Asked ((Call.write Zc t).turn S)
 a2:Asked (Call.sync.turn ((Call.write Zc t).turn S))
 a3:Asked ((Call.rename Zc Zt).turn (Call.sync.turn ((Call.write Zc t).turn S)))
 roomy:Roomy (Yv S (J8 t)) 0 k m
theorem Roomy.names{S:DS}{n k m:Nat}{t:Str}(h:Roomy S n (t.length+k) (m+1))(hn:n<4000000000000):RoomDo S t k m:=by
 have i1:=h.inv.turn (Call.write Zc t);have i2:=i1.turn Call.sync;have i3:=i2.turn (Call.rename Zc Zt);have i4:=i3.turn Call.sync;have hm:=h.inv.now;obtain⟨w1,t1,a0,_,_,_,_,_⟩:=h.write (s:=Zc) hn (by decide);have o1:(S.does (.write Zc t)).off=false:=h.off;have f1:(S.does (.write Zc t)).fuse = -1:=h.fuse;have w2:Call.sync.errno (S.does (.write Zc t))=0:=Z1q _ o1 f1;have t2:Call.sync.turn (S.does (.write Zc t))={ S with now:=Zx S.now Zc t,sure:=Zx S.now Zc t,pend:=[] }:=by rw[Z1r _ o1 f1];rfl
 obtain⟨S2,hS2⟩:∃ S2:DS,S2={ S with now:=Zx S.now Zc t,sure:=Zx S.now Zc t,pend:=[] }:=⟨_,rfl⟩;have o2:S2.off=false:=by rw[hS2];exact h.off
 have f2:S2.fuse = -1:=by rw[hS2];exact h.fuse
 have h2:Zw S2.now Zc=true:=by rw[hS2];exact Z8h hm
 have s2:fS S2.now Zc=t:=by rw[hS2];exact Z8i hm
 have e3:(Call.rename Zc Zt).err S2=0:=by
  show (if (Y1 Zc && Y1 Zt)=true then (if Zw S2.now Zc=true then (0:Int) else 5) else 11)=0;rw[if_pos (by decide),if_pos h2]
 have w3:(Call.rename Zc Zt).errno S2=0:=(Z1q _ o2 f2).trans e3;have t3:(Call.rename Zc Zt).turn S2=S2.does (.rename Zc Zt):=by rw[Z1r _ o2 f2,e3];rfl
 have n3:(S2.does (.rename Zc Zt)).now=Zx (Xf (Zx S.now Zc t) Zc) Zt t:=by
  show (if Zw S2.now Zc=true then Zx (Xf S2.now Zc) Zt (fS S2.now Zc) else S2.now)=_;rw[if_pos h2,s2,hS2]
 have o3:(S2.does (.rename Zc Zt)).off=false:=o2;have f3:(S2.does (.rename Zc Zt)).fuse = -1:=f2;have w4:Call.sync.errno (S2.does (.rename Zc Zt))=0:=Z1q _ o3 f3;have t4:Call.sync.turn (S2.does (.rename Zc Zt))=Live.after S t:=by
  rw[Z1r _ o3 f3];show (⟨(S2.does (.rename Zc Zt)).now,(S2.does (.rename Zc Zt)).now,[],S2.room,S2.fuse,S2.off⟩:DS)=⟨Zx (Xf (Zx S.now Zc t) Zc) Zt t,Zx (Xf (Zx S.now Zc t) Zc) Zt t,[],S.room,S.fuse,S.off⟩;rw[n3,hS2]
 rw[t1] at i1 i2 i3 i4;rw[t2,<-hS2] at i2 i3 i4;rw[t3] at i3 i4;rw[t4] at i4;have hE:Xa S (J8 t)=0:=by
  unfold J8;rw[Xa,if_pos w1,t1,Xa,if_pos w2,t2,<-hS2,Xa,if_pos w3,t3,Xa,if_pos w4];rfl
 have hS:Yv S (J8 t)=Live.after S t:=by
  unfold J8;rw[Yv,if_pos w1,t1,Yv,if_pos w2,t2,<-hS2,Yv,if_pos w3,t3,Yv,if_pos w4,t4];rfl
 have m1:Yl (Zx S.now Zc t):=hm.put _ _;have m2:Yl (Xf (Zx S.now Zc t) Zc):=m1.del _;have l1:=Z4p (k:=Zc) (t:=t) hm;rw[h.next] at l1;have l2:=Z2l (k:=Zc) m1;rw[Z8h hm] at l2;have l3:=Z4q (k:=Zt) (t:=t) m2;have q1:=Z0v hm Zc t;rw[Z8k h.next] at q1;have q2:=Z0w (k:=Zc) m1;rw[Z8i hm] at q2;have q3:=Z0v m2 Zt t;have hr:=h.room;have hf:=h.files;simp at l1 l2 q1;refine⟨hE,a0,?_,?_,?_,?_⟩
 ·rw[t1];exact i1.asked (by omega)
 ·rw[t1,t2,<-hS2];exact i2.asked (by omega)
 ·rw[t1,t2,<-hS2,t3];exact i3.asked (by omega)
 ·rw[hS];refine⟨⟨i4.toGood,i4.keys,i4.keys',i4.opn,lA _,i4.re⟩,h.off,h.fuse,?_,?_,?_⟩
  ·show Zw (Zx (Xf (Zx S.now Zc t) Zc) Zt t) Zc=false;rw[Z4o (Ne.symm nf)];exact Z8j
  ·show ((Yx (Zx (Xf (Zx S.now Zc t) Zc) Zt t):Nat):Int)+k<=S.room;omega
  ·show Zs (Zx (Xf (Zx S.now Zc t) Zc) Zt t)+m<=600;omega
end
section
set_option maxRecDepth 100000
set_option maxHeartbeats 4000000
open Go.Lib renaming hid → iD
open Go.Proofs.Tryz
open Go.RowKit
theorem Z0n(T:Tab)(n:Str):∀ d ∈ Z4 T n,d ∈ Zb T:=fun d hd=>by
 unfold Z4 at hd;cases hf:T.find? (fun b=>b.name == n) with
 | none=>rw[hf] at hd;cases hd
 | some b =>
  rw[hf] at hd;exact List.mem_flatMap.2 ⟨b,nF hf,hd⟩
theorem Zd1(hRev:Q3){X:Nat->Prop}{w0:World}{base:Nat->Prop}{r rb g by_:Nat}{ra:Str}{br rbr:Bool}{L:List PCom}{T:Tab}{S:DS}{wA w:World}(hA:RpM X w0 base r rb g by_ ra br rbr L T S wA)(hO:RpOk L T)(hbA:Below wA.heap.size wA w) :
  Calls lB 22 #[.pointer (some ⟨r,0,none⟩)] w fun e w'=>∃ V,e=.returned V/\Yh w' w.heap.size (fun b=>b<wA.heap.size) V (Zi L (Zb T))/\Below w.heap.size w w':=by
 have h:=hA.below hbA;obtain⟨LV,hR,hC⟩:=hA.repo;replace hR:=hR.below hbA hR.lt;obtain⟨v,hB,hT⟩:=h.refs;have hC':CsIs w (fun b=>b<wA.heap.size) LV L:=hC.stay (fun b _ hl=>hbA.block b hl) hbA.size (fun _ _ hl=>hl);refine (Zjv r LV by_ rb g ra br _ _ v T _ w hR hB hT hO.fit hO.ok (by have:=hO.len;unfold Zb at this;omega) (fun V W'=>Yh W' w.heap.size (fun b=>b<wA.heap.size) V (Zi L (Zb T))) (fun A c W1 hb1 hrow=>?_)).mono ?_
 ·refine (Zn6 hRev L hO.hist (Zb T) hO.has hO.hok (by have:=hO.len;omega) r by_ LV _ (fun b=>b<wA.heap.size) _ W1 ((hR.below hb1 hR.lt).cell 0) ((hR.below hb1 hR.lt).cell 1) (hC'.stayB hb1) (h.map.below hb1 h.map.lt) (Gb hrow)).mono ?_;rintro e w2 ⟨V,rfl,hO2,hb2⟩;obtain⟨A2,c2,rfl⟩:=hO2.form;exact⟨_,_,_,rfl,(hO2.lower hb1.size).weak (fun b hb _=>hb.1),hb2⟩
 ·rintro e w2 ⟨o,k,oc,rfl,hQ,hb⟩;exact⟨_,rfl,hQ,hb⟩
theorem Z46(hRev:Q3){X:Nat->Prop}{w0:World}{base:Nat->Prop}{r rb g by_:Nat}{ra:Str}{br rbr:Bool}{L:List PCom}{T:Tab}{S:DS}{w:World}(h:RpM X w0 base r rb g by_ ra br rbr L T S w)(hO:RpOk L T) :
  Calls lB 22 #[.pointer (some ⟨r,0,none⟩)] w fun e w'=>∃ V,e=.returned V/\Yh w' w.heap.size (fun b=>b<w.heap.size) V (Zi L (Zb T))/\Below w.heap.size w w':=Zd1 hRev h hO (lE _ _)
theorem Yh.read{w:World}{lo:Nat}{ok:Nat->Prop}{v:Value}{L:List PCom}(h:Yh w lo ok v L):CsIs w (fun _=>True) v L:=h.csis (fun _ _ _ _=>trivial) (fun _ _ _=>trivial)
theorem Zn7(hRev:Q3){X:Nat->Prop}{w0:World}{base:Nat->Prop}{r rb g by_:Nat}{ra:Str}{br rbr:Bool}{L:List PCom}{T:Tab}{S:DS}{w:World}(h:RpM X w0 base r rb g by_ ra br rbr L T S w)(hO:RpOk L T)(n:Str)(hn:Z4 T n ≠ [])(hK:Y9 w) :
  Calls lB 4 #[.pointer (some ⟨r,0,none⟩),Z0 n] w fun e w'=>e=.returned (.tuple #[Z0 (Xw (J2 (Zi L (Zb T)) (Z4 T n))),.int .i64 0])/\Below w.heap.size w w':=by
 obtain⟨LV,hR,hC⟩:=h.repo;obtain⟨v,hB,hT⟩:=h.refs;have hv:=Zjy r LV by_ rb g ra n br _ _ v T _ w hR hB hT hO.fit hO.bok.2.2 hn;have hp:=iD (fun W (hb:Below w.heap.size w W)=>Z46 hRev (h.below hb) hO);have hin:InN (Z5 (Zi L (Zb T))) (Z4 T n):=fun d hd=>Zct hO.hist (Z0n T n d hd) (hO.has d (Z0n T n d hd));have hgo:hOk (Z4 T n):=fun d hd=>hO.hok d (Z0n T n d hd);have hgl:(Z4 T n).length<=256:=by
  unfold Z4;cases hf:T.find? (fun b=>b.name == n) with
  | none=>simp
  | some b =>
   have:=(Z25 (hO.bok.2.1 b (nF hf)).2.2).1;simp only;omega
 have hx:=iD (fun W (hb:Below w.heap.size w W) LV' IV ok hL hI=>Zmw (Zi L (Zb T)) (hO.hist.past _) (Z4 T n) hin hgo (by omega) LV' IV ok W hL hI (keys_below hK hb));obtain⟨hs,hhs⟩:∃ hs,hs=Z4 T n:=⟨_,rfl⟩;obtain⟨P,hP⟩:∃ P,P=Zi L (Zb T):=⟨_,rfl⟩;rw[<-hhs] at hv hx ⊢;rw[<-hP] at hp hx ⊢;replace hhs:=iD hhs;replace hP:=iD hP;clear hR hB hT hC h hin hgo hK;unfold Z0 at hv hx ⊢;go_enter func4,ntmps4;go_wp2_with fail;refine hv.mono ?_;rintro e w1 ⟨V,rfl,hrow,hb1⟩;obtain⟨IA,ic,rfl,_,_⟩:=Z6 hrow;replace hrow:=iD hrow;clear hv;go_wp2_with fail;refine (hp.out w1 hb1).mono ?_;rintro e w2 ⟨PV,rfl,hO2,hb2⟩;have hb2':=hb1.trans (hb2.mono hb1.size);have hI2:Z7 w2 (fun _=>True) (.slice IA hs.length ic) hs:=((Gb hrow.out).stayB hb2).stay (fun _ _ _=>rfl) (fun _ _ _=>trivial);have hL2:=hO2.read;have hcall:=hx.out w2 hb2' _ _ _ hL2 hI2;obtain⟨PA,pc,rfl⟩:=hO2.form;replace hcall:=iD hcall;replace hb2':=iD hb2';clear hO2 hI2 hL2 hb2;go_wp2_with fail;refine hcall.out.mono ?_;rintro e w3 ⟨rfl,hb3⟩;have hbf:=hb2'.out.trans (hb3.mono hb2'.out.size);go_wp2_with fail;go_returns;exact⟨rfl,hbf⟩
end
section
set_option maxRecDepth 100000
set_option maxHeartbeats 16000000
open Go.Lib renaming hid → iD
open Go.Proofs.Tryz
open Go.RowKit
def Xi(F:List PCom):List Call:=F.map fun c=>Call.write (Km (idC c)) (Q7 c)
theorem Zn8(F:List PCom)(c:PCom):Xi (F++[c])=Xi F++[Call.write (Km (idC c)) (Q7 c)]:=by
 unfold Xi;rw[nG];rfl
theorem Inv.chain:∀ (l:List Call) (S:DS) (n:Nat),Inv S n->Inv (Yv S l) (n+l.length)
 | [],S,n,h=>h
 | c :: l,S,n,h=>by
  rw[Yv];split
  ·have:=Inv.chain l (c.turn S) (n+1) (h.turn c);rw[List.length_cons,show n+(l.length+1)=n+1+l.length by omega];exact this
  ·exact (h.turn c).up (by simp)
theorem HistOk.take{L:List PCom}(h:HistOk L)(m:Nat):HistOk (L.take m):=by
 refine⟨by have:=h.len;rw[lQ];omega,fun i c hc=>?_⟩;obtain⟨hi,hc'⟩:=Qd hc;have e:(L.take m).take i=L.take i:=by rw[List.take_take,Nat.min_eq_left (by omega)]
 rw[e];refine (h.next i c hc').list (fun k cc hk hcc=>?_);rw[Zc6 L i (by have:=(lG.1 hc').1;omega)] at hk;rw[nH,if_pos (by omega),hcc]
section
variable {X:Nat->Prop} {w0:World} {base:Nat->Prop} {r rb g by_:Nat} {ra:Str} {br rbr:Bool} {L:List PCom} {T:Tab} {S S':DS} {W W':World}
theorem RpM.turned(h:RpM X w0 base r rb g by_ ra br rbr L T S W){bn bs:Nat}{pv:Value}(hD:DiskAt W g bn bs pv S)(hL:∀ i ∈ Zh g bn bs pv,base i)(hn:by_ ∉ Zh g bn bs pv)(ht:Yt W (Zh g bn bs pv) g S' W'):RpM X w0 base r rb g by_ ra br rbr L T S' W'/\KeepsR W W':=by
 obtain⟨LV,hR,hC⟩:=h.repo;obtain⟨v,hB,hT⟩:=h.refs;obtain⟨ht,L',hD',hL'⟩:=ht;have hk:KeepsR W W':=KeepsR.disk hD ht;refine⟨⟨h.bel.trans (ht.stay hL),fun i hi=>h.size i (lD ht.size hi),h.low,⟨LV,hR.touch ht (hD.tag hR (by decide) (by decide)),hC.keepX hk ht.size⟩,h.map.touch ht hn,⟨v,hB.touch ht (hD.tag hB (by decide) (by decide)),hT.keepX hk⟩,L',hD',fun i hi=>?_,fun hm=>?_⟩,hk⟩
 ·rcases hL' i hi with h1 | h1
  ·exact hL i h1
  ·exact h.size i h1
 ·rcases hL' _ hm with h1 | h1
  ·exact hn h1
  ·have:=h.map.lt;omega
theorem RpM.at(h:RpM X w0 base r rb g by_ ra br rbr L T S W):∃ bn bs pv,DiskAt W g bn bs pv S/\(∀ i ∈ Zh g bn bs pv,base i)/\by_ ∉ Zh g bn bs pv:=by
 obtain⟨Lf,⟨bn,bs,pv,hD,rfl⟩,hL,hn⟩:=h.disk;exact⟨bn,bs,pv,hD,hL,hn⟩
theorem Stay.calm{W'':World}(h:Stay base W W')(hb:Below W'.heap.size W' W''):Stay base W W'':=h.trans (Z3k hb (fun i h1 h2=>absurd h2 (by omega)))
end
theorem Zn9{w:World}{g bn bs:Nat}{pv:Value}{S:DS}(h:DiskAt w g bn bs pv S):∀ i ∈ Zh g bn bs pv,i<w.heap.size:=fun i hi=>by
 rcases DiskAt.mem_foot hi with rfl | rfl | rfl | e
 ·exact h.blk.lt
 ·exact h.now.lt
 ·exact h.sure.lt
 ·obtain⟨vs,ho,_⟩:=h.row;obtain⟨cs,hB⟩:=Z37 ho i e;exact hB.lt
def Xr(L:List PCom)(T:Tab)(F:List PCom)(E:Int):List PCom:=if E=0 then Zi L (Zb T)++F else L
def Xs(T:Tab)(C:List Chg)(E:Int):Tab:=if E=0 then Zu T C else T
def Uz(X:Nat->Prop)(w0:World)(base:Nat->Prop)(r rb g:Nat)(ra:Str)(L:List PCom)(T:Tab)(F:List PCom)(C:List Chg)(E:Int)(S:DS)(w:World)(e:Ending)(w':World):Prop :=
 e=.returned (.int .i64 E)/\KeepsR w w'/\w.heap.size<=w'.heap.size/\∃ by' rbr,(E ≠ 15->rbr=false)/\RpM X w0 base r rb g by' ra false rbr (Xr L T F E) (Xs T C E) S w'
theorem Y8.form4{w:World}{ok:Nat->Prop}{cs:List Value}{c:PCom}(h:Y8 w ok cs c):∃ PA pc OA oc,cs=[.slice PA c.parents.length pc,Z0 c.author,Z0 c.note,.slice OA c.ops.length oc]:=by
 obtain⟨p,o,rfl,⟨PA,pc,rfl,_⟩,⟨OA,oc,rfl,_⟩⟩:=h;exact⟨PA,pc,OA,oc,rfl⟩
theorem Zna(hRev:Q3){X:Nat->Prop}{w0:World}{base:Nat->Prop}{r rb g by_:Nat}{ra:Str}{L:List PCom}{T:Tab}{S:DS}{w:World}(h:RpM X w0 base r rb g by_ ra false false L T S w)(hO:RpOk L T)(hX:∀ b,X b->b<w.heap.size)
    (F:List PCom) (hF:HistOk (Zi L (Zb T)++F)) (FV:Value) (hFV:CsIs w (FrX X w) FV F) (C:List Chg) (u:Value) (hC:Yz w (Fr w) u C) (hCf:CFit C) (hcok:cOk C) (hCn:C ≠ []) (hA:Yy T C=0) (n:Nat) (hI:Inv S n) (hn:n<4000000000000) (hky:∀ W,Stay base w0 W->Y9 W) :
    Calls lB 51 #[.pointer (some ⟨r,0,none⟩),FV,u] w (Uz X w0 base r rb g ra L T F C (Xa S (Xi F++J8 (Xk (Zu T C)))) (Yv S (Xi F++J8 (Xk (Zu T C)))) w):=by
  have hTf:=hO.fit;have hFl:F.length<=200:=by have:=hF.len;rw[lL] at this;omega
  have hnextF:∀ (m:Nat) (c:PCom),F[m]?=some c->ComFit c/\MayOk c:=fun m c hc=>by
    have:=hF.next ((Zi L (Zb T)).length+m) c (by rw[lY (by omega)];simpa using hc);exact⟨this.fit,this.may⟩
  obtain⟨hmay',hok'⟩:=Z1s hA hO.ok hcok;have hpl:=Z65 hmay' hok';have hPt:Xk (Zu T C)=Jh (Zu T C):=by unfold Xk;rw[if_pos hmay']
  have hTf':TFit (Zu T C):=by
    obtain⟨h1,h2,_⟩:=(O7 _).1 hmay';refine⟨by omega,fun b hb=>?_⟩;obtain⟨n,_,e⟩:=h2 b hb;have:=(Z25 e).1;exact⟨by have:=nmOk_len' n;omega,by omega,hok' b hb⟩
  rw[<-hPt] at hpl;obtain⟨Pt,hPte⟩:∃ Pt,Pt=Xk (Zu T C):=⟨_,rfl⟩;rw[<-hPte] at hpl ⊢;obtain⟨E,hE⟩:∃ E,E=Xa S (Xi F++J8 Pt):=⟨_,rfl⟩;obtain⟨Se,hSe⟩:∃ Se,Se=Yv S (Xi F++J8 Pt):=⟨_,rfl⟩;rw[<-hE,<-hSe];obtain⟨FA,fc,hFe,_⟩:=hFV.row;subst hFe;obtain⟨UA,uc,hUe,huc⟩:=hC.form;subst hUe;have hmm:=@run_makeMap lB;replace hE:=iD hE;replace hSe:=iD hSe;replace hPte:=iD hPte;replace hPt:=iD hPt;replace h:=iD h;replace hFV:=iD hFV;replace hC:=iD hC;replace hky:=iD hky;replace hRev:=iD hRev;replace hO:=iD hO;replace hF:=iD hF;replace hX:=iD hX;replace hnextF:=iD hnextF;replace hmay':=iD hmay';replace hok':=iD hok';replace hTf':=iD hTf';go_enter func51,ntmps51;go_wp2_with fail;obtain⟨LV0,hR0,_⟩:=h.out.repo;obtain⟨v0,hB0,hT0⟩:=h.out.refs;refine (Z68 r LV0 by_ rb g ra false _ _ v0 T _ w hR0 hB0 hT0 hTf).mono ?_;rintro e w1 ⟨V,rfl,ho,hb1⟩;obtain⟨VA,vc,rfl,_⟩:=ho.form;clear hR0 hB0 hT0;go_wp2_with fail;refine (Z5i T C _ _ _ _ w1 ho.tab hTf (hC.out.stayB hb1) hCf).mono ?_;rintro e w2 ⟨V,rfl,ho2,hb2⟩;rw[hA];obtain⟨VB,vd,rfl,_⟩:=ho2.form;have hb2':=hb1.trans (hb2.mono hb1.size);have hM2:=h.out.below hb2';have hk2:=KeepsR.below hb2';have hz2:=hb2'.size;clear ho ho2 hb1 hb2 hb2';replace hM2:=iD hM2;replace hk2:=iD hk2;go_wp2_with fail;go_loopw [32] (fun i wr=>∃ (m:Nat),m<=F.length/\i=.int .i64 (m:Int)/\Xa S (Xi (F.take m))=0/\RpM X w0 base r rb g by_ ra false false L T (Yv S (Xi (F.take m))) wr/\KeepsR w wr/\w.heap.size<=wr.heap.size) (fun i _=>F.length - (intOf i).toNat)
  case atStart=>exact⟨0,lJ _,rfl,rfl,hM2.out,hk2.out,hz2⟩
  case round =>
    obtain⟨m,hm,rfl,hce,hM,hk,hz⟩:=hrel;clear hM2 hk2 hz2;by_cases hlt:m<F.length
    · as_aux_lemma =>
        obtain⟨c,hc⟩:∃ c,F[m]?=some c:=⟨_,lC hlt⟩;obtain⟨hcf,hcm⟩:=hnextF.out m c hc;have hFr:=hFV.out.keepX hk hz;obtain⟨_,_,he,hcom⟩:=hFr.row;obtain⟨cb,co,cs,hFA,hokc,hcbl,hCI,hcc⟩:=hcom m c hc
        injection he with he1 _ he3
        subst he1;subst he3;subst hFA;obtain⟨PA,pc,OA,oc,rfl⟩:=hCI.form4;have l0:wr.cell? ⟨cb,co+m*4,none⟩=some (.slice PA c.parents.length pc):=hcc 0 _ rfl;have l1:wr.cell? ⟨cb,co+m*4+1,none⟩=some (Z0 c.author):=hcc 1 _ rfl;have l2:wr.cell? ⟨cb,co+m*4+2,none⟩=some (Z0 c.note):=hcc 2 _ rfl;have l3:wr.cell? ⟨cb,co+m*4+3,none⟩=some (.slice OA c.ops.length oc):=hcc 3 _ rfl;have i1:(0:Int)<=(m:Int):=by omega
        have i2:(m:Int)<(F.length:Int):=by omega
        have hel:=Z6j hcf hcm;have hen:=iD (fun W (hb:Below wr.heap.size wr W)=>Zbf c _ _ W (hCI.stayB hb) hcf hcm);obtain⟨xs,hxs⟩:∃ xs,xs=Q7 c:=⟨_,rfl⟩;have hidx:Ge xs=idC c:=by rw[hxs];rfl
        have hid:=Q0 c;obtain⟨ds,hds⟩:∃ ds,ds=idC c:=⟨_,rfl⟩;rw[<-hds] at hidx hid;rw[<-hxs] at hen hel;have hsn:Xi (F.take (m+1))=Xi (F.take m)++[Call.write (Km ds) xs]:=by
          rw[lP hlt,Zn8,hds,hxs];have : F[m]=c:=by rw[lC hlt] at hc;exact lM hc
          rw[this]
        have hall:Xi F=Xi (F.take (m+1))++Xi (F.drop (m+1)):=by
          unfold Xi;rw[<-nG,List.take_append_drop]
        obtain⟨Sm,hSm⟩:∃ Sm,Sm=Yv S (Xi (F.take m)):=⟨_,rfl⟩;have hInv:Inv Sm (n+200):=by
          rw[hSm];refine (Inv.chain _ S n hI).up ?_;unfold Xi;rw[lN,lQ];omega
        rw[<-hSm] at hM;have hM':=hM;obtain⟨LVr,hRr,_⟩:=hM'.repo;unfold Z0 at l1 l2;unfold Z0 at hen;replace hsn:=iD hsn;replace hall:=iD hall;replace hSm:=iD hSm;replace hxs:=iD hxs;replace hidx:=iD hidx;replace hds:=iD hds;replace hce:=iD hce;replace hM:=iD hM;replace hk:=iD hk;replace hc:=iD hc;replace hFr:=iD hFr;replace hRr:=iD hRr;clear hcom hcc hCI hM';go_wp2_with fail;generalize hW3:lH wr (lZ _ 82)=w3;have hb3:Below wr.heap.size wr w3:=by rw[<-hW3];exact bL
        clear hW3 l0 l1 l2 l3;refine (hen.out w3 hb3).mono ?_;rintro e w4 ⟨V,rfl,hrow,hb4⟩;obtain⟨EA,ec,rfl,hec,_⟩:=Z6 hrow;have hb4':=hb3.trans (hb4.mono hb3.size);have hrd4:Rd w4 (· < w4.heap.size) EA (xs.map B):=(Ua hrow).weak (fun b hb _=>hb);clear hrow hen hb4 hb3;have hR4:=hRr.out.below hb4' hRr.out.lt;have hM4:=hM.out.below hb4';have hk4:=hk.out.trans (KeepsR.below hb4');have hz4:=lD hz hb4'.size;replace hrd4:=iD hrd4;replace hM4:=iD hM4;replace hk4:=iD hk4;clear hb4' hRr hM hk hz;go_wp2_with fail;obtain⟨PS,hPS⟩:∃ PS:World->Prop,∀ x,PS x ↔ Below w4.heap.size w4 x:=⟨_,fun _=>Iff.rfl⟩;have s0:∀ s:Cls PS,s.1.cell? ⟨r,3,none⟩=some (.pointer (some ⟨g,0,none⟩)):=fun s=>(hR4.below ((hPS _).1 s.2) hR4.lt).cell 3;have s1:Hid (∀ w',(∃ s:Cls PS,w'=s.1)->Rd w' (· < w4.heap.size) EA (xs.map B)):=iD (by rintro _ ⟨s,rfl⟩;exact hrd4.out.stay (fun b _ hlt=>((hPS _).1 s.2).block b hlt) (fun b h _=>h));have s4:PS w4.drew:=(hPS _).2 (lE _ _).drew;haveI : Nonempty (Cls PS):=⟨⟨_,s4⟩⟩;replace hPS:=iD hPS;replace hR4:=iD hR4;refine Kk (fun w'=>∃ s:Cls PS,w'=s.1) [([0,1,2,3,4,8,9],5),([],6)] [7] 10 [11] (by kernel_rfl) (by kernel_rfl) (fun _ d _ _ _ h=>by cases d <;> exact h) ⟨⟨_,s4⟩,rfl⟩ ?_;simp only[Jr,Zj,nI,nJ,Yw,Ys];repeat (first | go_big_quiet_step (fail) | (refine Z0t 99 9 (.tmp 49) rfl rfl 5 underlying99 underlying5 underlying9 EA xs ec rfl s1.out ?_;go_frame))
        refine lI ?_;intro K hK;go_simp;have hK4:Y9 w4:=hky.out _ hM4.out.bel;refine (Zae xs EA ec w4.drew (s1.out _ ⟨⟨_,s4⟩,rfl⟩) (by omega) (by omega) hK4).mono ?_;rintro e w5 ⟨rfl,hb5⟩;have hb45:=(lE w4.heap.size w4).drew.trans hb5;rw[hidx.out];refine hK _ _ ⟨⟨_,(hPS.out _).2 hb45⟩,rfl⟩ ?_;clear hK;refine lI ?_;intro K hK;go_simp;refine (Z8c ds hid w5).mono ?_;rintro e w6 ⟨rfl,hb6⟩;have hb46:=hb45.trans (hb6.mono hb45.size);refine hK _ _ ⟨⟨_,(hPS.out _).2 hb46⟩,rfl⟩ ?_;clear hK hb45 hb5 hb6;obtain⟨hx,hhx⟩:∃ hx,hx=Xy ds:=⟨_,rfl⟩;have hxl2:hx.length=64:=by rw[hhx,Z0u,hid]
        have hsz:(⟨hx.toArray⟩:ByteArray).size=64:=(Z53 hx).trans hxl2;rw[<-hhx];replace hhx:=iD hhx;replace hxl2:=iD hxl2;repeat (first | go_big_quiet_step (fail))
        refine lI ?_;have hcat:((⟨#[111]⟩:ByteArray)++⟨hx.toArray⟩)=⟨(Km ds).toArray⟩:=by
          have e:Km ds=[111]++hx:=by rw[hhx.out];rfl
          rw[e];apply ByteArray.ext;simp
        obtain⟨hn1,hn2,hn3⟩:=Zb4 hid;have hM6:=hM4.out.below hb46;have hk6:=hk4.out.trans (KeepsR.below hb46);have hz6:=lD hz4 hb46.size;obtain⟨bn,bs,pv,hD,hLb,hby⟩:=hM6.at;have hwr:=Zai g bn bs pv Sm (Km ds) xs w6 hD (hInv.asked (by omega)) (by omega) (by omega);unfold Z0 at hwr;rw[<-hcat] at hwr;obtain⟨ew,hew⟩:∃ ew,ew=(Call.write (Km ds) xs).errno Sm:=⟨_,rfl⟩;rw[<-hew] at hwr;clear s0 s1 s4 hcat hsz;replace hM6:=iD hM6;replace hk6:=iD hk6;replace hD:=iD hD;replace hLb:=iD hLb;replace hby:=iD hby
        replace hew:=iD hew;replace hwr:=iD hwr;clear hR4 hM4 hk4 hrd4;go_wp2_with fail;refine hwr.out.mono ?_;rintro e w7 ⟨rfl,ht7⟩;obtain⟨hM7,hk67⟩:=hM6.out.turned hD.out hLb.out hby.out ht7;have hk7:=hk6.out.trans hk67;have hz7:=lD hz6 ht7.1.size;have hcS:Xa S (Xi (F.take (m+1)))=ew/\Yv S (Xi (F.take (m+1)))=(Call.write (Km ds) xs).turn Sm:=by
          rw[hsn.out,Z28,Z29,if_pos hce.out,if_pos hce.out,<-hSm.out];unfold Xa Yv;rw[<-hew.out];by_cases h0:ew=0
          · rw[if_pos h0,if_pos h0]
            exact⟨h0.symm,rfl⟩
          · rw[if_neg h0,if_neg h0]
            exact⟨rfl,rfl⟩
        clear hwr ht7 hk67 hM6 hk6 hD;by_cases h0:ew=0
        · have g0:decide (ew=0)=true:=decide_eq_true h0
          subst h0;replace hM7:=iD hM7;replace hk7:=iD hk7;replace hcS:=iD hcS;go_wp2_with fail;exact⟨⟨m+1,by omega,by go_num,hcS.out.1,by rw[hcS.out.2];exact hM7.out,hk7.out,hz7⟩,by simp[intOf];omega⟩
        · have g0:(ew != 0)=true:=by simpa using h0
          have hEe:E=ew/\Se=(Call.write (Km ds) xs).turn Sm:=by
            rw[hE.out,hSe.out,hall.out,List.append_assoc,Z28,Z29,hcS.1,if_neg h0,if_neg h0,hcS.2];exact⟨rfl,rfl⟩
          replace hM7:=iD hM7;replace hk7:=iD hk7;replace hEe:=iD hEe;replace hcS:=iD hcS;go_wp2_with fail;go_returns;rw[hEe.out.1,hEe.out.2];unfold Uz Xr Xs;rw[if_neg h0,if_neg h0];exact⟨rfl,hk7.out,hz7,_,false,fun _=>rfl,hM7.out⟩
    · have hmt:m=F.length:=by omega
      subst hmt;rw[lK] at hce hM;obtain⟨S1,hS1⟩:∃ S1,S1=Yv S (Xi F):=⟨_,rfl⟩;rw[<-hS1] at hM;have hInv1:Inv S1 (n+200):=by
        rw[hS1];refine (Inv.chain _ S n hI).up ?_;unfold Xi;rw[lN];omega
      have hEd:E=Xa S1 (J8 Pt)/\Se=Yv S1 (J8 Pt):=by
        rw[hE.out,hSe.out,Z28,Z29,if_pos hce,if_pos hce,<-hS1];exact⟨rfl,rfl⟩
      clear hlt hm hI;obtain⟨wA,rfl⟩:∃ wA,wA=wr:=⟨_,rfl⟩;have hsA:=iD hM.size;obtain⟨bn,bs,pv,hDA,hLb,hby⟩:=hM.at;have hDl:=Zn9 hDA;have hFA:=hFV.out.keepX hk hz;replace hEd:=iD hEd;replace hS1:=iD hS1;replace hce:=iD hce;replace hM:=iD hM;replace hk:=iD hk;replace hDA:=iD hDA;replace hLb:=iD hLb;replace hby:=iD hby
      replace hDl:=iD hDl;replace hFA:=iD hFA;go_upto_region 13 with fail;generalize hW8:lH (wA.alloc _) (lZ _ 28)=w8;have hb8:Below wA.heap.size wA w8:=by rw[<-hW8];exact bL.alloc (by simp) _
      have hK8:Blk w8 (wA.heap.size+1) 28 [Z2,.map (some wA.heap.size)]:=by rw[<-hW8];exact Blk.new_at (cs:=[Z2,.map (some wA.heap.size)]) (by simp)
      have hP8:Zg w8 wA.heap.size []:=by rw[<-hW8];exact (Zg.new_at rfl).alloc _
      have hz8:wA.heap.size+2<=w8.heap.size:=by rw[<-hW8];simp
      clear hW8 hmm;obtain⟨kb,hkb⟩:∃ kb,kb=wA.heap.size+1:=⟨_,rfl⟩;obtain⟨mb,hmb⟩:∃ mb,mb=wA.heap.size:=⟨_,rfl⟩;rw[<-hkb,<-hmb] at hK8 ⊢;rw[<-hmb] at hP8;have hmb1:base mb:=hsA.out _ (by omega);have hkb1:base kb:=hsA.out _ (by omega);have hpa:=Zd1 hRev.out hM.out hO.out hb8;replace hb8:=iD hb8;replace hK8:=iD hK8;replace hP8:=iD hP8;have hkA:mb=wA.heap.size/\kb=wA.heap.size+1:=⟨hmb,hkb⟩;replace hkA:=iD hkA;clear hmb hkb;go_wp2_with fail;refine hpa.mono ?_;rintro e w9 ⟨PV,rfl,hP9,hb9⟩;obtain⟨PAA,pcc,rfl⟩:=hP9.form;obtain⟨P,hPd⟩:∃ P,P=Zi L (Zb T):=⟨_,rfl⟩;rw[<-hPd] at hP9;obtain⟨xs,hx9,hr9⟩:=hP9;have hbA9:=hb8.out.trans (hb9.mono hb8.out.size);have hPl:P.length+F.length<=200:=by
        have:=hF.out.len;rw[lL,<-hPd] at this;exact this
      obtain⟨_,_,ys,hFe2,hy9,hRd9⟩:=((hFA.out.stay (w':=w9) (ok':=fun b=>b<wA.heap.size) (fun b _ hl=>hbA9.block b hl) hbA9.size (fun b _ hl=>hl))).rd
      injection hFe2 with e1 _ e3
      subst e1;subst e3;have hyl:=Z24 ys hy9.four;rw[hy9.1] at hyl;have hz9:=hb9.size;have hone9:=hy9.one_;rw[<-hPd];replace hPd:=iD hPd;replace hx9:=iD hx9;replace hy9:=iD hy9;replace hr9:=iD hr9;replace hRd9:=iD hRd9;replace hb9:=iD hb9;replace hbA9:=iD hbA9;replace hone9:=iD hone9;clear hpa;go_wp2_with (first
        | (at_builtin;refine X0 _ rfl (.tmp 59) (.tmp 60) 25 rfl w8.heap.size 82 _ 4 80 underlying25 Z67 (.slice PAA P.length pcc) P.length xs.flatten rfl hr9.out (fun b=>b<wA.heap.size) FA F.length fc ys.flatten rfl hyl hRd9.out hone9.out (by unfold maxLen;omega) (by omega) hz9 ?_;intro vB wB hrowB hgB hvB;obtain⟨MA,mc,rfl,_,_⟩:=Z6 hrowB;go_frame)
        | fail)
      have hbB:Below w8.heap.size w9 wB:=Yd hr9.out hgB hz9;have hb8B:=hb9.out.trans hbB;have hbAB:=hbA9.out.trans (hbB.mono hb8.out.size);have hz8':=hb8.out.size;have hMrow:Yh wB w8.heap.size (fun b=>b<wA.heap.size) (.slice MA (P.length+F.length) mc) (P++F):=Yh.app (hx9.out.stay (fun b hb _=>hbB.block b (by omega)) (fun _ h _=>h)) (hy9.out.stay (fun b hb _=>hbB.block b (by omega)) (fun _ h _=>h)) hrowB;have hMh:=hF.out;rw[<-hPd.out] at hMh;obtain⟨M,hMd⟩:∃ M,M=P++F:=⟨_,rfl⟩;have hMl:P.length+F.length=M.length:=by rw[hMd,lL]
      rw[<-hMd] at hMrow hMh;have hMi:(P.length:Int)+(F.length:Int)=(M.length:Int):=by omega
      rw[hMl] at hMrow hPl ⊢;try rw[hMi]
      clear hMi;have hKB:=hK8.out.below hb8B hK8.out.lt;have hPB:=hP8.out.below hb8B hP8.out.lt;have hzB:=hb8B.size;have hCB:CsIs wB (fun b=>b<wB.heap.size/\b ≠ kb/\b ≠ mb) (.slice MA M.length mc) M:=hMrow.csis (fun b cs _ hB=>⟨hB.lt,fun e=>by subst e;exact absurd (hB.unique hKB) (by decide),fun e=>hPB.ne_blk hB e⟩) (fun b hb hl=>⟨hl,by have:=hkA.out.2;omega,by have:=hkA.out.1;omega⟩);have hknB:KnAt wB wB.heap.size kb mb []:=⟨⟨Z2,[],hKB,Y7.nil,rfl,.inl ⟨rfl,rfl⟩⟩,hPB,hKB.lt,hPB.lt⟩;clear hrowB hgB hvB hMrow hbB hb8B hx9 hy9 hr9 hRd9 hb9 hbA9 hone9 hyl hK8 hP8 hPB hKB hFA;replace hCB:=iD hCB;replace hbAB:=iD hbAB;replace hMh:=iD hMh;replace hMd:=iD hMd;replace hMl:=iD hMl;replace hknB:=iD hknB;go_loopw [63] (fun i wr=>∃ m:Nat,m<=M.length/\i=.int .i64 (m:Int)/\Touch [kb,mb] wB wr/\KnAt wr wB.heap.size kb mb (M.take m)) (fun i _=>M.length - (intOf i).toNat)
      case atStart=>exact⟨0,lJ _,rfl,Touch.refl _ _,by simpa using hknB.out⟩
      case round =>
        obtain⟨m,hm,rfl,ht,hkn⟩:=hrel;clear hknB;have hbAr:Below wA.heap.size wA wr:=hbAB.out.trans (ht.below (by omega) (fun i hi=>by
          have:=hkA.out;simp only[lR,List.not_mem_nil,or_false] at hi;omega))
        have hMr:=hM.out.below hbAr;by_cases hlt:m<M.length
        · as_aux_lemma =>
            obtain⟨c,hc⟩:∃ c,M[m]?=some c:=⟨_,lC hlt⟩;have hnx:=hMh.out.next m c hc;have hCr:CsIs wr (fun _=>True) (.slice MA M.length mc) M:=hCB.out.stay (fun b hb hl=>ht.block b hl (by simp[hb.2.1,hb.2.2])) ht.size (fun _ _ _=>trivial);obtain⟨_,_,he,hcom⟩:=hCr.row;obtain⟨cb,co,cs,hFA,hokc,hcbl,hCI,hcc⟩:=hcom m c hc
            injection he with he1 _ he3
            subst he1;subst he3;subst hFA;obtain⟨PA,pc,OA,oc,rfl⟩:=hCI.form4;have l0:wr.cell? ⟨cb,co+m*4,none⟩=some (.slice PA c.parents.length pc):=hcc 0 _ rfl;have l1:wr.cell? ⟨cb,co+m*4+1,none⟩=some (Z0 c.author):=hcc 1 _ rfl;have l2:wr.cell? ⟨cb,co+m*4+2,none⟩=some (Z0 c.note):=hcc 2 _ rfl;have l3:wr.cell? ⟨cb,co+m*4+3,none⟩=some (.slice OA c.ops.length oc):=hcc 3 _ rfl;have i1:(0:Int)<=(m:Int):=by omega
            have i2:(m:Int)<(M.length:Int):=by omega
            have hkey:=iD (fun W (hb:Below wr.heap.size wr W)=>hky.out _ (hMr.bel.calm hb));have hcid:=iD (fun W (hb:Below wr.heap.size wr W)=>Z6k c _ _ W (hCI.stayB hb) hnx.fit hnx.may (hkey.out W hb));have hown:=iD (fun W (hb:Below wr.heap.size wr W)=>Zms c _ _ W (hCI.stayB hb) hnx.fit hnx.may.ops);have hid:=Q0 c;have hsn:M.take (m+1)=M.take m++[c]:=by
              rw[lP hlt];have : M[m]=c:=by rw[lC hlt] at hc;exact lM hc
              rw[this]
            have hkad:=iD (fun ds (hds:ds=idC c) cs' W hk' hlo' hc'=>Zmv (M.take m) (hMh.out.take m) (by rw[lQ];omega) c hnx.fit hnx.new hnx.par hnx.may.par ds hds cs' wB.heap.size kb mb W hk' hlo' hc');obtain⟨ds,hds⟩:∃ ds,ds=idC c:=⟨_,rfl⟩;rw[<-hds] at hcid hid;have hzw:=ht.size;unfold Z0 at l1 l2;unfold Z0 at hcid hown;replace hds:=iD hds;replace hsn:=iD hsn;replace hkn:=iD hkn;replace ht:=iD ht;replace hbAr:=iD hbAr;replace hMr:=iD hMr;replace hc:=iD hc;replace hCr:=iD hCr;replace hnx:=iD hnx;have hz4:∀ (a b c d:Value),(lB.info? 82).map (·.size)=some [a,b,c,d].length:=fun _ _ _ _=>Z26 rfl;replace hz4:=iD hz4;clear hcom hcc hCI;go_wp2_with fail;generalize hW11:lH wr (lZ _ 82)=w11;have hb11:Below wr.heap.size wr w11:=by rw[<-hW11];exact bL
            have hX11:Blk w11 wr.heap.size 82 [.slice PA c.parents.length pc,.string ⟨c.author.toArray⟩,.string ⟨c.note.toArray⟩,.slice OA c.ops.length oc]:=by rw[<-hW11];exact Blk.new_at (cs:=[.slice PA c.parents.length pc,.string ⟨c.author.toArray⟩,.string ⟨c.note.toArray⟩,.slice OA c.ops.length oc]) rfl
            clear hW11 l0 l1 l2 l3;refine (hcid.out w11 hb11).mono ?_;rintro e w12 ⟨rfl,hb12⟩;have hb12':=hb11.trans (hb12.mono hb11.size);have hX12:=hX11.below hb12 hX11.lt;clear hb11 hb12 hX11 hcid;replace hX12:=iD hX12;replace hb12':=iD hb12';go_wp2_with (first
              | (refine Zo rfl 47 (.tmp 17) (.tmp 70) rfl w12.heap.size (ds.map B) rfl rfl 47 Z3 (Blk.new_at rfl) (by simp[hid,Z3]) (Za hid) (Yk _) ?_
                 generalize hw1:lV _ w12.heap.size (ds.map B).toArray=w13;have hD13:Blk w13 w12.heap.size 47 (ds.map B):=by
                   rw[<-hw1];exact (Blk.new_at (w:=w12) (t:=47) (cs:=Z3) rfl).setRow_same (ds.map B)
                 have hb13:Below w12.heap.size w12 w13:=by
                   rw[<-hw1];exact below_setRow ((lE w12.heap.size w12).alloc (lA _) (.cells Z3.toArray 47)) (lA _) (ds.map B).toArray
                 clear hw1;replace hD13:=iD hD13;replace hb13:=iD hb13;go_frame)
              | fail)
            have hX13:=hX12.out.below hb13.out hX12.out.lt;have hb13':=hb12'.out.trans (hb13.out.mono hb12'.out.size);obtain⟨db,hdb⟩:∃ db,db=w12.heap.size:=⟨_,rfl⟩;obtain⟨xb,hxb⟩:∃ xb,xb=wr.heap.size:=⟨_,rfl⟩;have hD13':=hD13.out;rw[<-hdb] at hD13' ⊢;rw[<-hxb] at hX13 ⊢;clear hX12 hb12' hb13 hD13 hdb hxb;obtain⟨PS,hPS⟩:∃ PS:World->Prop,∀ x,PS x ↔ Blk x db 47 (ds.map B)/\Blk x xb 82 [.slice PA c.parents.length pc,.string ⟨c.author.toArray⟩,.string ⟨c.note.toArray⟩,.slice OA c.ops.length oc]:=⟨_,fun _=>Iff.rfl⟩;have s1:Hid (∀ w',(∃ s:Cls PS,w'=s.1)->Blk w' db 47 (ds.map B)):=iD (by rintro _ ⟨s,rfl⟩;exact ((hPS _).1 s.2).1);have s2:Hid (∀ w',(∃ s:Cls PS,w'=s.1)->Blk w' xb 82 [.slice PA c.parents.length pc,.string ⟨c.author.toArray⟩,.string ⟨c.note.toArray⟩,.slice OA c.ops.length oc]):=iD (by rintro _ ⟨s,rfl⟩;exact ((hPS _).1 s.2).2);have s4:PS w13.drew:=(hPS _).2 ⟨hD13'.drew,hX13.drew⟩;haveI : Nonempty (Cls PS):=⟨⟨_,s4⟩⟩;replace hPS:=iD hPS;refine Kk (fun w'=>∃ s:Cls PS,w'=s.1) [([0,1],2)] [] 3 [] (by kernel_rfl) (by kernel_rfl) (fun _ d _ _ _ h=>by cases d <;> exact h) ⟨⟨_,s4⟩,rfl⟩ ?_;simp only[Jr,Zj,nI,nJ,Yw,Ys];repeat (first
              | (refine Yf 47 (.tmp 17) rfl rfl db 0 rfl 47 (ds.map B) (ds.map B) [] s1.out (by simp) _ underlying47 rfl (Za hid) ?_;go_frame)
              | (refine Yf 82 (.tmp 16) rfl rfl xb 0 rfl 82 [.slice PA c.parents.length pc,.string ⟨c.author.toArray⟩,.string ⟨c.note.toArray⟩,.slice OA c.ops.length oc] [.slice PA c.parents.length pc,.string ⟨c.author.toArray⟩,.string ⟨c.note.toArray⟩,.slice OA c.ops.length oc] [] s2.out (by simp) _ underlying82 rfl (hz4.out _ _ _ _) ?_;go_frame)
              | go_big_quiet_step (fail))
            refine lI ?_;intro K hK;go_simp;have hbd:=hb13'.trans ((lE w13.heap.size w13).drew.mono hb13'.size);refine (hown.out w13.drew hbd).mono ?_;rintro e w14 ⟨cs',rfl,hc14,hb14⟩;have hb14':Below w13.heap.size w13 w14:=(lE _ _).drew.trans hb14;have hdb14:=hD13'.below hb14' hD13'.lt;have hX14:=hX13.below hb14' hX13.lt;have hbr14:=hb13'.trans (hb14'.mono hb13'.size);refine hK _ _ ⟨⟨_,(hPS.out _).2 ⟨hdb14,hX14⟩⟩,rfl⟩ ?_;clear hK;refine lI ?_;have hk14:=hkn.out.calm hbr14;have hz14:wB.heap.size<=w14.heap.size:=lD hzw hbr14.size;have hc14':Y8 w14 (Yr w14 wB.heap.size) cs' c:=hc14.stay (fun _ _ _=>rfl) (fun b hb _=>⟨by
              have h1:=hb.1;have h2:=hbd.size;omega,hb.2⟩)
            have hka:=hkad.out ds hds.out cs' w14 hk14 hz14 hc14';replace hka:=iD hka;replace hbr14:=iD hbr14;clear hc14 hc14' hk14 hb14 hb14' hdb14 hX14 hX13 hD13' s1 s2 s4 hbd hb13' hown hkad;go_wp2_with fail;refine hka.out.mono ?_;rintro e w15 ⟨rfl,hk15,hlo15⟩;have ht15:=LoT.touch (ht.out.trans (Touch.ofBelow hbr14.out) (fun i hi=>.inl hi)) hlo15;rw[<-hsn.out] at hk15;replace hk15:=iD hk15;replace ht15:=iD ht15;clear hka hlo15;go_wp2_with fail;exact⟨⟨m+1,by omega,by go_num,ht15.out,hk15.out⟩,by simp[intOf];omega⟩
        · have hmt:m=M.length:=by omega
          subst hmt;rw[lK] at hkn;have hDr:=hDA.out.below hbAr;obtain⟨LVr,hRr,hCr⟩:=hMr.repo;obtain⟨vr,hBr,hTr⟩:=hMr.refs;have hkr:=hk.out.trans (KeepsR.below hbAr);have hzr:=lD hz hbAr.size;have hCu:=hkr.chs hC.out;have hap:=Z5i T C vr _ _ _ wr hTr hTf hCu hCf;have hdo:=do_by rb g bn bs pv vr _ S1 T C _ _ wr hBr hTr hTf hCu hCf hA hCn hTf'.out (by rw[<-hPte.out];omega) hDr (hInv1.asked (by omega)) ((hInv1.turn _).asked (by omega)) (((hInv1.turn _).turn _).asked (by omega)) ((((hInv1.turn _).turn _).turn _).asked (by omega)) hap;rw[<-hPte.out,<-hEd.out.1,<-hEd.out.2] at hdo;have r2:wr.cell? ⟨r,2,none⟩=some (.pointer (some ⟨rb,0,none⟩)):=hRr.cell 2;have hXr:∀ b,X b->b<wr.heap.size:=fun b hb=>Nat.lt_of_lt_of_le (hX.out b hb) hzr;have hXB:∀ b,X b->b<wB.heap.size:=fun b hb=>by
            have h1:=hX.out b hb;have h2:=hbAB.out.size;omega
          have hmbr:mb<wr.heap.size:=hkn.map.lt;have hmf:mb ∉ Zh g bn bs pv:=fun hm=>by
            have h1:=hDl.out mb hm;have h2:=hkA.out.1;omega
          clear hap hCu hM hk hDA hbAr hRev hFV hC hbAB hCB;replace hkn:=iD hkn;replace hdo:=iD hdo;replace hMr:=iD hMr;replace hRr:=iD hRr;replace hCr:=iD hCr;replace hBr:=iD hBr;replace hTr:=iD hTr;replace hDr:=iD hDr;replace hkr:=iD hkr;go_wp2_with fail;refine hdo.out.mono ?_;rintro e w16 ⟨rfl,ht16,⟨L',hD16,hL16⟩,nv,hB16,hT16⟩;have hkp:Gf wr w16:=fun k t cs hBk a b c=>hBk.touch ht16 (fun hm=>by
            rcases lR.1 hm with rfl | hm
            · exact a (hBk.unique hBr.out)
            · exact hDr.out.tag hBk b c hm)
          have hk16:KeepsR wr w16:=KeepsR.names hDr.out hBr.out ht16 hkp;have hkw:=hkr.out.trans hk16;have hz16:=lD hzr ht16.size;have hR16:=hkp _ _ _ hRr.out (by decide) (by decide) (by decide);have hbel:Stay base w0 w16:=hMr.out.bel.trans (ht16.stay (fun i hi=>by
            rcases lR.1 hi with rfl | hi
            · exact hMr.out.low.2.1
            · exact hLb.out i hi))
          have hsz:∀ i,w16.heap.size<=i->base i:=fun i hi=>hMr.out.size i (lD ht16.size hi);have hLb':∀ i ∈ L',base i:=fun i hi=>by
            rcases hL16 i hi with h1 | h1
            · exact hLb.out i h1
            · exact hMr.out.size i h1
          clear hdo;by_cases hE0:E=0
          · have hTT:Zz w16 wr.heap.size nv (Zu T C):=by rw[if_pos hE0] at hT16;exact hT16
            have hTn:TabIs w16 (FrX X w16) nv (Zu T C):=hTT.frx hXr;have hflag:decide (E=15)=false:=decide_eq_false (by omega);rw[hflag] at hB16;have hg0:(E != 0)=false:=by simpa using hE0
            obtain⟨LV,xs,hX1,hx1,hr1⟩:=hkn.out.box;obtain⟨LA,lc,rfl,_,_⟩:=Z6 hr1;have hCs:CsIs wr (FrX X wr) (.slice LA M.length lc) M:=Yh.csis (lo:=wB.heap.size) ⟨xs,hx1,hr1⟩ (fun b cs hb hB=>⟨Zcv hB,fun hx=>by have:=hXB b hx;omega⟩) (fun b hb _=>⟨hb.fr,fun hx=>by have:=hXB b hx;have:=hb.1;omega⟩);have hCs16:=hCs.keepX hk16 ht16.size;have hX16:=hkp _ _ _ hX1 (by decide) (by decide) (by decide);have hM16:Zg w16 mb (byN (Z5 M)):=hkn.out.map.touch ht16 (fun hm=>by
              rcases lR.1 hm with h1 | hm
              · exact hkn.out.map.ne_blk hBr.out h1.symm
              · exact hmf hm)
            have k0:w16.cell? ⟨kb,0,none⟩=some (.slice LA M.length lc):=hX16.cell 0;have k1:w16.cell? ⟨kb,1,none⟩=some (.map (some mb)):=hX16.cell 1;have hmL:mb ∉ L':=fun hm=>by
              rcases hL16 _ hm with h1 | h1
              · exact hmf h1
              · omega
            have hkn2:(lB.info? 28).map (·.size)=some 2:=by kernel_rfl
            have hrm:r ≠ mb:=hkn.out.map.ne_blk hRr.out;have hrbm:rb ≠ r:=hBr.out.ne_ hRr.out (by decide);clear hTT hT16 hX1 hx1 hr1 hCs hX16 hflag r2;subst hE0;replace hkn2:=iD hkn2;replace hR16:=iD hR16;replace hB16:=iD hB16;replace hTn:=iD hTn;replace hCs16:=iD hCs16;replace hM16:=iD hM16;replace hD16:=iD hD16;replace hkw:=iD hkw;replace hbel:=iD hbel;go_wp2_with (first | (refine Z7n rfl 28 (.tmp 89) (.tmp 87) rfl r 0 [.slice LA M.length lc,.map (some mb)] rfl rfl 32 (Xv LVr by_ rb g ra false) hR16.out (by simp) hkn2.out (by simp[l5]) ?_) | fail);have hsp:splice (Xv LVr by_ rb g ra false) 0 [.slice LA M.length lc,.map (some mb)]=Xv (.slice LA M.length lc) mb rb g ra false:=rfl;rw[hsp];have ht17:Touch [r] w16 (w16.setRow r (Xv (.slice LA M.length lc) mb rb g ra false).toArray):=Touch.setRow (by simp) _;have hR17:Blk (w16.setRow r (Xv (.slice LA M.length lc) mb rb g ra false).toArray) r 32 _:=hR16.out.setRow_same (Xv (.slice LA M.length lc) mb rb g ra false);generalize w16.setRow r (Xv (.slice LA M.length lc) mb rb g ra false).toArray=w17 at ht17 hR17 ⊢;have hkk:KeepsR w16 w17:=KeepsR.one hR16.out ht17 rfl;have hfin:Uz X w0 base r rb g ra L T F C 0 Se w (.returned (.int .i64 0)) w17:=by
              refine⟨rfl,hkw.out.trans hkk,lD hz16 ht17.size,mb,false,fun _=>rfl,?_⟩;unfold Xr Xs;rw[if_pos rfl,if_pos rfl,<-hPd.out,<-hMd.out];refine⟨hbel.out.trans (ht17.stay (fun i hi=>by
                obtain rfl:i=r:=by simpa using hi
                exact hMr.out.low.1)),fun i hi=>hsz i (lD ht17.size hi),⟨hMr.out.low.1,hMr.out.low.2.1,hmb1⟩,⟨_,hR17,hCs16.out.keepX hkk ht17.size⟩,hM16.out.touch ht17 (by simpa using fun e=>hrm e.symm),⟨nv,hB16.out.touch ht17 (by simpa using hrbm),hTn.out.keepX hkk⟩,L',hD16.out.touch ht17 (fun i hi hm=>?_) (fun i hi cs hBi=>?_),hLb',hmL⟩
              · obtain rfl:i=r:=by simpa using hm
                obtain⟨bn',bs',pv',hDA',rfl⟩:=hD16.out;exact hDA'.tag hR16.out (by decide) (by decide) hi
              · obtain rfl:i=r:=by simpa using hi
                exact absurd (hBi.unique hR16.out) (by decide)
            replace hfin:=iD hfin;clear k0 k1 hsp;go_wp2_with fail;go_returns;exact hfin.out
          · have hg0:(E != 0)=true:=by simpa using hE0
            rw[if_neg hE0] at hT16;subst hT16;have hfin:Uz X w0 base r rb g ra L T F C E Se w (.returned (.int .i64 E)) w16:=by
              refine⟨rfl,hkw,hz16,by_,decide (E=15),fun h=>decide_eq_false h,?_⟩;unfold Xr Xs;rw[if_neg hE0,if_neg hE0];refine⟨hbel,hsz,hMr.out.low,⟨_,hR16,hCr.out.keepX hk16 ht16.size⟩,hMr.out.map.touch ht16 (fun hm=>?_),⟨nv,hB16,hTr.out.keepX hk16⟩,L',hD16,hLb',fun hm=>?_⟩
              · rcases lR.1 hm with h1 | hm
                · exact hMr.out.map.ne_blk hBr.out h1.symm
                · exact hby.out hm
              · rcases hL16 _ hm with h1 | h1
                · exact hby.out h1
                · have:=hMr.out.map.lt
                  omega
            replace hfin:=iD hfin;clear hR16 hB16 hD16 hkw hbel r2;go_wp2_with fail;go_returns;exact hfin.out
end
section
open Go.RowKit
theorem Zd2:∀ {l:List Str},l.Pairwise (fun a b=>Ze a b=true)->rises l=true
 | [],_=>rfl
 | [_],_=>rfl
 | a :: b :: r,h=>by
  simp only[rises,lS];exact⟨(nK.1 h).1 b (by simp),Zd2 (nK.1 h).2⟩
theorem Zd3{l:List Str}(h:l.Nodup):rises (Jv l)=true:=by
 refine Zd2 ?_;have h1:(Jv l).Pairwise (fun x y=>(!Ze y x)=true):=by
  unfold Jv;refine List.pairwise_mergeSort ?_ ?_ l
  ·intro a b c hab hbc;simp only[lT] at hab hbc ⊢;cases hca:Ze c a with
   | false=>rfl
   | true =>
    exfalso
    cases hcb:Ze b c with
    | true =>
     have:=Qv _ _ _ hcb hca;rw[this] at hab;cases hab
    | false =>
     have:=O6 _ _ hbc hcb;rw[this,hab] at hca;cases hca
  ·intro a b;cases hab:Ze a b with
   | false=>simp
   | true=>simp[Z4s a b hab]
 have h2:(Jv l).Nodup:=by
  unfold Jv;exact (List.mergeSort_perm l _).nodup_iff.2 h
 refine (List.Pairwise.and h1 h2).imp ?_;rintro a b ⟨hab,hne⟩;simp only[lT] at hab;cases hx:Ze a b with
 | true=>rfl
 | false=>exact absurd (O6 _ _ hx hab) hne
structure HdIn (N:List PNd) (ins:List Bool) (i:Nat) (o:List Str):Prop where
 mem:∀ d ∈ o,∃ j x,i<=j/\N[j]?=some x/\x.id=d/\ins[j]?=some true
 nodup:o.Nodup
theorem Z77{N:List PNd}(hN:NdOk N)(ins:List Bool):∀ (i:Nat) (u:List Bool) (o:List Str),i<=N.length->HdIn N ins i o->HdIn N ins 0 (Jw N ins i u o)
 | 0,u,o,_,h=>h
 | i+1,u,o,hi,h=>by
  rw[Jw];refine Z77 hN ins i _ _ (by omega) ?_;have hx:N[i]?=some N[i]:=lC (by omega);split
  ·rename_i hc;simp only[lS] at hc;refine⟨fun d hd=>?_,?_⟩
   ·rcases l6.1 hd with hd | hd
    ·obtain⟨j,x,h1,h2⟩:=h.mem d hd;exact⟨j,x,by omega,h2⟩
    ·obtain rfl:d=Q1 N i:=by simpa using hd
     exact⟨i,_,lA _,hx,(Uv hx).symm,Qf.1 hc.1⟩
   ·refine List.nodup_append.2 ⟨h.nodup,by simp,fun a ha b hb e=>?_⟩;obtain rfl:b=Q1 N i:=by simpa using hb
    obtain⟨j,x,h1,h2,h3,_⟩:=h.mem a ha;have:=hN.inj j i x _ h2 hx (by rw[h3,e,Uv hx]);omega
  ·exact⟨fun d hd=>by
    obtain⟨j,x,h1,h2⟩:=h.mem d hd;exact⟨j,x,by omega,h2⟩,h.nodup⟩
theorem Zd4{N:List PNd}(ins:List Bool):∀ (i:Nat) (u:List Bool) (o:List Str) (d:Str),d ∈ o->d ∈ Jw N ins i u o
 | 0,_,_,_,h=>h
 | i+1,u,o,d,h=>by
  rw[Jw];refine Zd4 ins i _ _ d ?_;split
  ·exact List.mem_append_left _ h
  ·exact h
theorem Zd5{N:List PNd}(hN:NdOk N)(ins:List Bool)(B:Nat->Prop):∀ (i:Nat) (u:List Bool) (o:List Str),i<=N.length->u.length=N.length ->
  (∀ d ∈ Jw N ins i u o,B (ixD N d))->(∀ (k:Nat) (x:PNd),B k->N[k]?=some x->∀ d ∈ x.par,B (ixD N d))->(∀ j,u[j]?=some true->B j)->(∀ j,i<=j->ins[j]?=some true->B j)->∀ j,ins[j]?=some true->B j
 | 0,u,o,_,_,_,_,_,h,j,hj=>h j (lJ _) hj
 | i+1,u,o,hi,hl,h1,h2,h3,h4,j,hj=>by
  rw[Jw] at h1;have hx:N[i]?=some N[i]:=lC (by omega);have hBi:(ins.getD i false || u.getD i false)=true->B i:=fun hc=>by
   by_cases hu:u.getD i false=true
   ·exact h3 i (Qf.1 hu)
   ·have hii:ins.getD i false=true:=by
     simp only[nE] at hc;rcases hc with hc | hc
     ·exact hc
     ·exact absurd hc hu
    have hm:Q1 N i ∈ Jw N ins i (if ins.getD i false || u.getD i false then Y6 N u (Vj N i) else u) (if ins.getD i false && !u.getD i false then o++[Q1 N i] else o):=by
     refine Zd4 ins i _ _ _ ?_;rw[if_pos (by simp only[lS,lT];exact⟨hii,by simpa using hu⟩)];simp
    have:=h1 _ hm
    rwa [Uv hx,Kf hN hx] at this
  refine Zd5 hN ins B i _ _ (by omega) ?_ h1 h2 (fun k hk=>?_) (fun k hk hik=>?_) j hj
  ·split
   ·rw[Ot];exact hl
   ·exact hl
  ·by_cases hc:(ins.getD i false || u.getD i false)=true
   ·rw[if_pos hc] at hk;rcases Z22 N _ _ _ hk with h5 | ⟨d,hd,rfl⟩
    ·exact h3 k h5
    ·rw[Oy hx] at hd;exact h2 i _ (hBi hc) hx d hd
   ·rw[if_neg hc] at hk;exact h3 k hk
  ·rcases Nat.eq_or_lt_of_le hk with rfl | hlt
   ·exact hBi (by rw[Qf.2 hik];rfl)
   ·exact h4 k (by omega) hik
def Yj(N:List PNd)(ds:List Str):List Str:=Vl N (Y6 N (lF N.length false) ds)
theorem Zd6{N:List PNd}(hN:NdOk N)(ds:List Str){d:Str}(hd:d ∈ Yj N ds):∃ (j:Nat) (y:PNd),N[j]?=some y/\y.id=d/\∃ e ∈ ds,ixD N e=j:=by
 unfold Yj Vl at hd;rw[Z45] at hd;obtain⟨j,x,_,h1,h2,h3⟩:=(Z77 hN _ N.length _ [] (lA _) ⟨(fun d hd=>by cases hd),List.nodup_nil⟩).mem d hd;rcases Z22 N _ _ _ h3 with h | ⟨e,he,h⟩
 ·rw[nL] at h;split at h <;> cases h
 ·exact⟨j,x,h1,h2,e,he,h⟩
theorem Zd7{N:List PNd}(hN:NdOk N)(ds:List Str):rises (Yj N ds)=true :=
 Zd3 (Z77 hN _ N.length _ [] (lA _) ⟨(fun d hd=>by cases hd),List.nodup_nil⟩).nodup
theorem Zd8{N:List PNd}(hN:NdOk N)(ds:List Str):∀ d ∈ Yj N ds,∃ (j:Nat) (y:PNd),N[j]?=some y/\y.id=d:=fun d hd=>by
 obtain⟨j,y,h1,h2,_⟩:=Zd6 hN ds hd;exact⟨j,y,h1,h2⟩
theorem Z78{N:List PNd}(hN:NdOk N)(ds:List Str):hOk (Yj N ds):=fun d hd=>by
 obtain⟨j,y,h1,h2,_⟩:=Zd6 hN ds hd;rw[<-h2];exact (hN.fit y (lW h1)).1
theorem Zd9{N:List PNd}(ins:List Bool):∀ (i:Nat) (u:List Bool) (o:List Str),(Jw N ins i u o).length<=o.length+i
 | 0,_,_=>lA _
 | i+1,u,o=>by
  rw[Jw];have:=Zd9 (N:=N) ins i (if ins.getD i false || u.getD i false then Y6 N u (Vj N i) else u) (if ins.getD i false && !u.getD i false then o++[Q1 N i] else o);refine lD this ?_;split
  ·simp;omega
  ·omega
theorem Znb{N:List PNd}(ds:List Str):(Yj N ds).length<=N.length:=by
 unfold Yj Vl;rw[Z44];have:=Zd9 (N:=N) (Y6 N (lF N.length false) ds) N.length (lF N.length false) [];simpa using this
theorem Znc{N:List PNd}(hN:NdOk N){ds:List Str}(hds:∀ d ∈ ds,∃ (j:Nat) (y:PNd),N[j]?=some y/\y.id=d){j:Nat}(hj:(Zv N ds)[j]?=some true):(Zv N (Yj N ds))[j]?=some true:=by
 have hlt:∀ d,(∃ (j:Nat) (y:PNd),N[j]?=some y/\y.id=d)->ixD N d<N.length:=fun d hd=>by
  obtain⟨j,y,h1,rfl⟩:=hd;rw[Kf hN h1];exact (lG.1 h1).1
 have hcl:∀ (k:Nat) (x:PNd),(Zv N (Yj N ds))[k]?=some true->N[k]?=some x->∀ d ∈ x.par,(Zv N (Yj N ds))[ixD N d]?=some true:=fun k x hb hx d hd=>Z23 hN _ hb hx hd;refine Z72 ds (fun j=>(Zv N (Yj N ds))[j]?=some true) (fun d hd=>?_) hcl hj;refine Zd5 hN (Y6 N (lF N.length false) ds) (fun j=>(Zv N (Yj N ds))[j]?=some true) N.length (lF N.length false) [] (lA _) (by simp) (fun e he=>?_) hcl (fun k hk=>?_) (fun k hk hm=>?_) _ (Z3y N ds _ d hd (by rw[nM];exact hlt d (hds d hd)))
 ·have he':e ∈ Yj N ds:=by
   unfold Yj Vl;rw[Z45];exact he
  exact Z71 hN he' (hlt e (Zd8 hN ds e he'))
 ·rw[nL] at hk;split at hk <;> cases hk
 ·have:=(lG.1 hm).1;rw[Ot,nM] at this;omega
end
section
open Go.RowKit
def O0(T:FT)(r:PRef):Prop:=∃ k nd,0<k/\T.nodes[k]?=some nd/\nd.name=r
def Z7d(T:FT)(pre:List POp)(x:POp):Prop :=
 (x.kind=2/\x.left=false/\x.byte=0/\O0 T x.at_) ∨
 (x.kind=1/\((x.left=false/\x.at_=Z8) ∨ O0 T x.at_ ∨ (x.left=false/\∃ (j:Nat) (y:POp),pre[j]?=some y/\y.kind=1/\x.at_=Js (j+1))))
def Q5(T:FT)(l:List POp):Prop:=∀ (i:Nat) (x:POp),l[i]?=some x->Z7d T (l.take i) x
theorem Q5.nil(T:FT):Q5 T []:=fun i x h=>by simp at h
theorem Q5.snoc{T:FT}{l:List POp}{x:POp}(h:Q5 T l)(hx:Z7d T l x):Q5 T (l++[x]):=fun i y hy=>by
 by_cases hi:i<l.length
 ·rw[nN hi] at hy;rw[List.take_append_of_le_length (by omega)];exact h i y hy
 ·have hl:=(lG.1 hy).1;have hi':i=l.length:=by simp at hl;omega
  subst hi';rw[lY (lA _)] at hy;obtain rfl:x=y:=by simpa using hy
  rw[List.take_left' rfl];exact hx
theorem Zo6{T:FT}(hT:FTok T){r:PRef}(h:r ∈ (X6 T).map (·.1)):O0 T r:=by
 obtain⟨p,hp,rfl⟩:=l7.1 h;obtain⟨k,hk,rfl⟩:=l7.1 hp;unfold Y2 at hk;obtain⟨_,hg⟩:=List.mem_filter.1 hk;cases hn:T.nodes[k]? with
 | none=>rw[hn] at hg;simp at hg
 | some nd =>
  rw[hn] at hg;refine⟨k,nd,?_,hn,?_⟩
  ·rcases nO k with rfl | h
   ·obtain⟨nd',h1,_,h3⟩:=hT.root;rw[h1] at hn;obtain rfl:=lM hn;simp[h3] at hg
   ·exact h
  ·simp[Z47,Ya,hn]
theorem Zdh{T:FT}(hT:FTok T):∀ (f c:Nat),c<T.nodes.length->c<=Ja T.nodes f c/\Ja T.nodes f c<T.nodes.length
 | 0,c,h=>⟨lA _,h⟩
 | f+1,c,h=>by
  rw[Ja];have hc:T.nodes[c]?=some T.nodes[c]:=lC h;rw[hc];simp only;split
  ·rename_i d r hl;obtain⟨h1,h2⟩:=hT.kids c _ true d hc (by unfold Zd;rw[if_pos rfl,hl];simp);have:=Zdh hT f d h2;omega
  ·exact⟨lA _,h⟩
theorem Zo7{T:FT}(hT:FTok T)(n:Nat):((Kn T n).2=false/\(Kn T n).1=Z8) ∨ O0 T (Kn T n).1:=by
 unfold Kn;obtain⟨a,ha⟩:∃ a,a=(if n=0 then 0 else (Y2 T).getD (n - 1) 0):=⟨_,rfl⟩;simp only;rw[<-ha];cases hn:T.nodes[a]? with
 | none=>exact .inl ⟨rfl,rfl⟩
 | some nd =>
  simp only;split
  ·rcases nO a with rfl | h
   ·obtain⟨nd',h1,h2,_⟩:=hT.root;rw[h1] at hn;obtain rfl:=lM hn;exact .inl ⟨rfl,h2⟩
   ·exact .inr ⟨a,nd,h,hn,rfl⟩
  ·rename_i c r hr;obtain⟨h1,h2⟩:=hT.kids a nd false c hn (by unfold Zd;rw[if_neg (by decide),hr];simp);obtain⟨h3,h4⟩:=Zdh hT T.nodes.length c h2;have hk:T.nodes[Ja T.nodes T.nodes.length c]?=some T.nodes[Ja T.nodes T.nodes.length c]:=lC h4;refine .inr ⟨_,_,by omega,hk,?_⟩;rw[hk];rfl
theorem Zdi{T:FT}(hT:FTok T):∀ (ds:List PRef) (l:List POp),(∀ r ∈ ds,O0 T r)->Q5 T l->Q5 T (l++ds.map Qq)
 | [],l,_,h=>by simpa using h
 | r :: ds,l,hd,h=>by
  have h1:=Zdi hT ds (l++[Qq r]) (fun x hx=>hd x (by simp[hx])) (h.snoc (.inl ⟨rfl,rfl,rfl,hd r (by simp)⟩));simpa using h1
theorem Zdj{T:FT}(g:PRef × Bool)(hg:(g.2=false/\g.1=Z8) ∨ O0 T g.1)(k:Nat):∀ (t:Str) (m:Nat) (l:List POp),l.length=k+m->(0<m->∃ y,l[k+m - 1]?=some y/\y.kind=1)->Q5 T l->Q5 T (l++Vk k g m t)
 | [],m,l,_,_,h=>by simpa[Vk] using h
 | c :: t,m,l,hl,hp,h=>by
  have hgo:Z7d T l (Qr k g m c):=by
   refine .inr ⟨rfl,?_⟩;by_cases hm:m=0
   ·subst hm;rcases hg with ⟨h1,h2⟩ | h1
    ·exact .inl ⟨by simp[Qr,h1],by simp[Qr,h2]⟩
    ·exact .inr (.inl (by simpa[Qr] using h1))
   ·obtain⟨y,hy,hk⟩:=hp (by omega);refine .inr (.inr ⟨by simp[Qr,hm],k+m - 1,y,hy,hk,?_⟩);simp only[Qr,if_neg hm];rw[show k+m - 1+1=k+m by omega]
  have h1:=Zdj g hg k t (m+1) (l++[Qr k g m c]) (by simp;omega) (fun _=>⟨Qr k g m c,by rw[lY (by omega),hl];simp,rfl⟩) (h.snoc hgo);simpa[Vk] using h1
theorem Zdk{T:FT}(hT:FTok T)(l:List PEd)(hl:edK l):∀ m,m<=l.length->Q5 T (K1 T l m).ops
 | 0,_=>Q5.nil T
 | m+1,hm=>by
  have ih:=Zdk hT l hl m (by omega);have hk:=hl l[m] (lO (by omega));have hr:=(Z48 T l hl m (by omega)).refs;rw[Z79 T (by omega)];unfold Oz;rcases hk with hk | hk | hk
  ·rw[if_pos hk];exact ih
  ·rw[if_neg (by rw[hk];decide),if_pos hk];unfold Yo;refine Zdi hT _ _ (fun r hr'=>Zo6 hT ?_) ih;rw[<-hr];exact List.mem_of_mem_drop (List.mem_of_mem_take hr')
  ·rw[if_neg (by rw[hk];decide),if_neg (by rw[hk];decide)];unfold Kr;exact Zdj _ (Zo7 hT _) _ _ 0 _ (by simp) (fun h=>absurd h (by omega)) ih
theorem Zdl{T:FT}(hT:FTok T)(tx:Str):Q5 T (Vm T tx):=by
 rw[<-Z7a];exact Zdk hT _ (Z7b (Xw T) tx).2.2 _ (lA _)
theorem Z7e{T:FT}(hT:FTok T){r:PRef}(h:O0 T r):r.own=false/\r.com.length=32/\1<=r.n/\r.n<=2000:=by
 obtain⟨k,nd,h0,h1,rfl⟩:=h;obtain⟨a,b,c,d,_⟩:=hT.name k nd h1 h0;exact⟨a,b,c,d⟩
theorem Zdm{T:FT}(hT:FTok T){l:List POp}(h:Q5 T l)(hl:l.length<=2000):OsFit l:=by
 refine⟨by omega,fun x hx=>?_⟩;obtain⟨i,hi,rfl⟩:=nP hx;have hxi:l[i]?=some l[i]:=lC hi;rcases h i _ hxi with ⟨h1,_,_,h2⟩ | ⟨h1,⟨_,h2⟩ | h2 | ⟨_,j,y,hj,_,h2⟩⟩
 ·obtain⟨_,h3,h4,h5⟩:=Z7e hT h2;exact⟨h3,by omega,by omega,by rw[h1];decide,by rw[h1];decide⟩
 ·exact⟨by rw[h2];rfl,by rw[h2];decide,by rw[h2];decide,by rw[h1];decide,by rw[h1];decide⟩
 ·obtain⟨_,h3,h4,h5⟩:=Z7e hT h2;exact⟨h3,by omega,by omega,by rw[h1];decide,by rw[h1];decide⟩
 ·have:=(lG.1 hj).1;rw[lQ] at this;have hn:(Js (j+1)).n=((j+1:Nat):Int):=rfl;exact⟨by rw[h2];rfl,by rw[h2,hn];omega,by rw[h2,hn];omega,by rw[h1];decide,by rw[h1];decide⟩
theorem Zdn{T:FT}(hT:FTok T){l:List POp}(h:Q5 T l){i:Nat}(hi:i<l.length):Oa l ((i:Int)+1)=0:=by
 have hxi:l[i]?=some l[i]:=lC hi;have hg:=h i _ hxi;obtain⟨x,hx⟩:∃ x,x=l[i]:=⟨_,rfl⟩;rw[<-hx] at hxi hg;unfold Oa;rw[if_neg (by omega),show ((i:Int)+1 - 1).toNat=i by omega,hxi];simp only;rw[show ((i:Int)+1).toNat=i+1 by omega];have hnode:O0 T x.at_->x.at_.own=false/\x.at_.root=false/\Ji x.at_=true:=fun hn=>by
  obtain⟨h1,_,h3,h4⟩:=Z7e hT hn;have hr:x.at_.root=false:=by
   cases hrr:x.at_.root with
   | false=>rfl
   | true =>
    have:=Z6b.1 hrr;rw[this] at h3;exact absurd h3 (by decide)
  refine⟨h1,hr,?_⟩;unfold Ji;rw[h1,hr];simp;omega
 rcases hg with ⟨h1,h2,h3,h4⟩ | ⟨h1,⟨h2,h3⟩ | h4 | ⟨h2,j,y,hj,hk,h3⟩⟩
 ·obtain⟨a,b,c⟩:=hnode h4;have hk:Ka x=0:=by unfold Ka;rw[if_neg (by rw[h1];decide),if_pos h1,h2,h3,b];decide
  rw[if_pos c,if_pos hk];unfold O9;rw[a];rfl
 ·have hk:Ka x=0:=by unfold Ka;rw[if_pos h1,h2];rfl
  have c:Ji x.at_=true:=by rw[h3];decide
  rw[if_pos c,if_pos hk];unfold O9;rw[h3];rfl
 ·obtain⟨a,b,c⟩:=hnode h4;have hk:Ka x=0:=by unfold Ka;rw[if_pos h1,b,Bool.and_false];rfl
  rw[if_pos c,if_pos hk];unfold O9;rw[a];rfl
 ·have hji:j<i:=by
   have:=(lG.1 hj).1;rw[lQ] at this;omega
  rw[nH,if_pos hji] at hj;have hk':Ka x=0:=by unfold Ka;rw[if_pos h1,h2];rfl
  have c:Ji x.at_=true:=by
   rw[h3];unfold Ji;have : (Js (j+1)).own=true:=rfl;rw[if_pos this];have h5:(Js (j+1)).n=((j+1:Nat):Int):=rfl;have h6:(Js (j+1)).com=X2:=rfl;rw[h5,h6];simp
  rw[if_pos c,if_pos hk'];unfold O9;have h5:x.at_.n=((j+1:Nat):Int):=by rw[h3];rfl
  rw[h5,show (((j+1:Nat):Int) - 1).toNat=j by omega,hj];simp[hk];omega
theorem Zo8(T:FT)(id:Str)(i:Nat)(x:POp)(k:Nat)(nd:FN)(h:(Q9 T id i x).nodes[k]?=some nd):(∃ nd',T.nodes[k]?=some nd'/\nd'.name=nd.name) ∨ (x.kind ≠ 2/\nd.name=⟨false,id,((i+1:Nat):Int)⟩):=by
 unfold Q9 at h;split at h
 ·exact .inl ⟨nd,h,rfl⟩
 ·rename_i k0 _;simp only at h;split at h
  ·simp only at h;rw[Vd] at h;split at h
   ·cases hT:T.nodes[k]? with
    | none=>rw[hT] at h;cases h
    | some y =>
     rw[hT] at h;obtain rfl:_=nd:=by simpa using h
     exact .inl ⟨y,rfl,rfl⟩
   ·exact .inl ⟨nd,h,rfl⟩
  ·rename_i hk;simp only at h;by_cases hkl:k<T.nodes.length
   ·rw[nN (by rw[Jb];exact hkl),Vd] at h;split at h
    ·cases hT:T.nodes[k]? with
     | none=>rw[hT] at h;cases h
     | some y =>
      rw[hT] at h;have h':=lM h;refine .inl ⟨y,rfl,?_⟩;rw[<-h'];simp only;split <;> rfl
    ·exact .inl ⟨nd,h,rfl⟩
   ·rw[lY (by rw[Jb];omega)] at h;have hl:=(lG.1 h).1;simp at hl;rw[Jb,show k - T.nodes.length=0 by rw[Jb] at hl;omega] at h;obtain rfl:_=nd:=by simpa using h
    exact .inr ⟨hk,rfl⟩
theorem Zdo(id:Str):∀ (l:List POp) (T:FT) (i:Nat) (k:Nat) (nd:FN),(Vc T id i l).nodes[k]?=some nd->(∃ nd',T.nodes[k]?=some nd'/\nd'.name=nd.name) ∨ ∃ (j:Nat) (x:POp),l[j]?=some x/\x.kind ≠ 2/\nd.name=⟨false,id,((i+j+1:Nat):Int)⟩
 | [],T,i,k,nd,h=>.inl ⟨nd,h,rfl⟩
 | x :: l,T,i,k,nd,h=>by
  rw[Vc] at h;rcases Zdo id l (Q9 T id i x) (i+1) k nd h with ⟨nd',h1,h2⟩ | ⟨j,y,h1,h2,h3⟩
  ·rcases Zo8 T id i x k nd' h1 with ⟨nd'',h3,h4⟩ | ⟨h3,h4⟩
   ·exact .inl ⟨nd'',h3,h4.trans h2⟩
   ·exact .inr ⟨0,x,rfl,h3,by rw[<-h2,h4]⟩
  ·exact .inr ⟨j+1,y,by simpa using h1,h2,by rw[h3,show i+1+j+1=i+(j+1)+1 by omega]⟩
theorem Zo9{T:FT}{id:Str}{l:List POp}{k:Nat}{nd:FN}(h:(U8 T id l).nodes[k]?=some nd):(∃ nd',T.nodes[k]?=some nd'/\nd'.name=nd.name) ∨ ∃ (j:Nat) (x:POp),l[j]?=some x/\x.kind ≠ 2/\nd.name=⟨false,id,((j+1:Nat):Int)⟩:=by
 unfold U8 at h;rcases Zdo id l _ 0 k nd h with h1 | ⟨j,x,h1,h2,h3⟩
 ·exact .inl h1
 ·exact .inr ⟨j,x,h1,h2,by rw[h3,nQ]⟩
theorem Z7f{L:List PCom}(hH:HistOk L)(bs:List Bool):∀ m,m<=L.length->∀ (k:Nat) (nd:FN),0<k->(Ju L bs m).nodes[k]?=some nd ->
  ∃ (j:Nat) (c:PCom) (i:Nat) (x:POp),L[j]?=some c/\bs[j]?=some true/\c.ops[i]?=some x/\x.kind=1/\nd.name=⟨false,idC c,((i+1:Nat):Int)⟩
 | 0,_,k,nd,hk,h=>by
  exfalso
  rcases k with _ | k
  ·omega
  ·simp[Ju,J1] at h
 | m+1,hm,k,nd,hk,h=>by
  have hc:L[m]?=some L[m]:=lC (by omega);rw[Z73 hc] at h;by_cases hb:bs.getD m false=true
  ·rw[if_pos hb] at h;rcases Zo9 h with ⟨nd',h1,h2⟩ | ⟨j,x,h1,h2,h3⟩
   ·obtain⟨j,c,i,x,h3,h4,h5,h6,h7⟩:=Z7f hH bs m (by omega) k nd' hk h1;exact⟨j,c,i,x,h3,h4,h5,h6,h2 ▸ h7⟩
   ·refine⟨m,L[m],j,x,hc,Qf.1 hb,h1,?_,h3⟩;have hmay:=(hH.next m _ hc).may;have hj:=(lG.1 h1).1;rcases Z0i (Ut (hmay.right j hj) h1).2.1 with ⟨h4,_⟩ | ⟨h4,_⟩
    ·exact h4
    ·exact absurd h4 h2
  ·rw[if_neg hb] at h;exact Z7f hH bs m (by omega) k nd hk h
def mkC(L:List PCom)(ids:List Str)(author note tx:Str):PCom:=⟨Yj (Z5 L) ids,author,note,Vm (J2 L ids) tx⟩
theorem Zdp(T:FT)(tx:Str):(Vm T tx).length<=(Xw T).length+tx.length:=by
 obtain⟨h1,h2,h3⟩:=Z7b (Xw T) tx;have:=(Z48 T _ h3 _ (lA _)).ops;rw[Z7a,lK] at this;omega
theorem Zdq{L:List PCom}(hH:HistOk L){ids:List Str}{a n tx:Str}(ha:Yi a=true)(hn:n.length<=200)(ht:tx.length<=1000)(hft:(Xw (J2 L ids)).length<=1000)
  (h8:(Yj (Z5 L) ids).length<=8):ComFit (mkC L ids a n tx)/\MayOk (mkC L ids a n tx):=by
 have hN:=hH.ndsAll;have hT:=(Z40 hH ids).1;have hg:=Zdl hT tx;have hol:(Vm (J2 L ids) tx).length<=2000:=by have:=Zdp (J2 L ids) tx;omega
 have hal:=nmOk_len' ha;exact⟨⟨⟨by show (Yj (Z5 L) ids).length<=_;omega,Z78 hN ids⟩,by show a.length<=_;omega,by show n.length<=_;omega,Zdm hT hg hol⟩,⟨h8,Zd7 hN ids,ha,hn,hol,fun i hi=>Zdn hT hg hi⟩⟩
theorem Zdr{L:List PCom}(hH:HistOk L){ids:List Str}(hids:InN (Z5 L) ids){a n tx:Str}(ha:Yi a=true)(hn:n.length<=200)(ht:tx.length<=1000)(hft:(Xw (J2 L ids)).length<=1000)
  (h8:(Yj (Z5 L) ids).length<=8) (hnew:∀ x ∈ Z5 L,x.id ≠ idC (mkC L ids a n tx)):NextOk (Z5 L) L (mkC L ids a n tx):=by
 have hN:=hH.ndsAll;have hT:=(Z40 hH ids).1;have hg:=Zdl hT tx;have hol:(Vm (J2 L ids) tx).length<=2000:=by have:=Zdp (J2 L ids) tx;omega
 have hal:=nmOk_len' ha;refine⟨⟨⟨by show (Yj (Z5 L) ids).length<=_;omega,Z78 hN ids⟩,by show a.length<=_;omega,by show n.length<=_;omega,Zdm hT hg hol⟩,⟨h8,Zd7 hN ids,ha,hn,hol,fun i hi=>Zdn hT hg hi⟩,hnew,Zd8 hN ids,fun i x hx ho h0=>?_⟩;have hnode:O0 (J2 L ids) x.at_:=by
  rcases hg i x hx with ⟨_,_,_,h1⟩ | ⟨_,⟨_,h1⟩ | h1 | ⟨_,j,y,_,_,h1⟩⟩
  ·exact h1
  ·rw[h1] at h0;exact absurd h0 (by decide)
  ·exact h1
  ·rw[h1] at ho;cases ho
 obtain⟨k,nd,hk0,hk,hnm⟩:=hnode;obtain⟨j,c,q,z,h1,h2,h3,h4,h5⟩:=Z7f hH _ _ (lA _) k nd hk0 hk;refine⟨j,q,Jc c,c,z,Kg h1,?_,Znc hN hids h2,h1,h3,h4,?_⟩
 ·rw[<-hnm,h5];rfl
 ·rw[<-hnm,h5];simp
end
section
set_option maxRecDepth 100000
set_option maxHeartbeats 8000000
open Go.Lib renaming hid → iD
open Go.Proofs.Tryz
open Go.RowKit
theorem Zoa{L:List PCom}(hH:HistOk L):∀ x ∈ Z5 L,rises x.par=true:=fun x hx=>by
 obtain⟨j,hj,e⟩:=nP hx;obtain⟨c,hc,rfl⟩:=Ks (by rw[lC hj,e]:(Z5 L)[j]?=some x);exact (hH.next j c hc).may.rises
theorem Zds{L:List PCom}:∀ x ∈ Z5 L,x.id.length=32:=fun x hx=>by
 obtain⟨c,_,rfl⟩:=l7.1 hx;exact Q0 c
theorem InN.app{N:List PNd}{a b:List Str}(ha:InN N a)(hb:InN N b):InN N (a++b):=fun d hd=>by
 rcases l6.1 hd with h | h
 ·exact ha d h
 ·exact hb d h
theorem hOk.app{a b:List Str}(ha:hOk a)(hb:hOk b):hOk (a++b):=fun d hd=>by
 rcases l6.1 hd with h | h
 ·exact ha d h
 ·exact hb d h
theorem Zdt(hS:Uy)(L:List PCom)(hH:HistOk L)(a b:List Str)(hia:InN (Z5 L) a)(hib:InN (Z5 L) b)(hoa:hOk a)(hob:hOk b)(hal:a.length+b.length<=1000)(LV AV BV:Value)(ok:Nat->Prop)(w:World)(hL:CsIs w ok LV L)(hA:Z7 w ok AV a)(hB:Z7 w ok BV b)(hK:Y9 w) :
    Calls lB 54 #[LV,AV,BV] w fun e w'=>((8<(Yj (Z5 L) (a++b)).length/\e=.returned (.tuple #[Z2,.int .i64 4])) ∨ ((Yj (Z5 L) (a++b)).length<=8/\∃ v,e=.returned (.tuple #[v,.int .i64 0])/\w'.ownsRow w.heap.size 47 32 v (Yj (Z5 L) (a++b)).length (Zy (Yj (Z5 L) (a++b)))))/\Below w.heap.size w w':=by
  have hnd:=iD (Zcy L hH LV ok w hL hK);have hhd:=iD (fun NV IV ok' W h1 h2=>Zn5 hS (Z5 L) hH.ndsAll (Zoa hH) (a++b) (hia.app hib) (hoa.app hob) (by rw[lL];exact hal) NV IV ok' W h1 h2);have hAb:=iD (fun W (hb:Below w.heap.size w W)=>hA.stayB hb);have hBb:=iD (fun W (hb:Below w.heap.size w W)=>hB.stayB hb);have hla:=Vx hoa;have hlb:=Vx hob;obtain⟨hs,hhs⟩:∃ hs,hs=Yj (Z5 L) (a++b):=⟨_,rfl⟩;have hhs':Vl (Z5 L) (Y6 (Z5 L) (lF (Z5 L).length false) (a++b))=hs:=hhs.symm;rw[hhs'] at hhd;rw[<-hhs];have hHl:hs.length<=200:=by
    have h1:=Znb (N:=Z5 L) (a++b);have h2:=hH.len;have h3:(Z5 L).length=L.length:=by unfold Z5;rw[lN]
    rw[<-hhs] at h1;omega
  obtain⟨LA,lc,hLVe,_⟩:=hL.row;obtain⟨AA,ac,hAe,_,_⟩:=id hA;obtain⟨BA,bc,hBe,_,_⟩:=id hB;subst hLVe;subst hAe;subst hBe;replace hhs:=iD hhs;replace hhs':=iD hhs';replace hla:=iD hla;replace hlb:=iD hlb;clear hL hA hB hK hH hia hib;go_enter func54,ntmps54;go_wp2_with fail;refine hnd.out.mono ?_;rintro e w1 ⟨NV,rfl,hNd,hb1⟩;have hn32:=Zds (L:=L);have hN1:=iD (fun W (hb:Below w1.heap.size w1 W)=>(hNd.keepB hb).nds hn32);obtain⟨NA,nc,rfl,_⟩:=hNd.form;obtain⟨_,_,eA,_,hAr⟩:=hAb.out _ hb1
  injection eA with eA1 _ eA3
  subst eA1;subst eA3;have hBr:=iD (fun W (hb:Below w.heap.size w W)=>(show Rd W ok BA (Zy b) from by
    obtain⟨_,_,eB,_,hBr⟩:=hBb.out _ hb
    injection eB with eB1 _ _
    subst eB1;exact hBr))
  have hz1:=hb1.size;replace hAr:=iD hAr;replace hb1:=iD hb1;clear hNd hnd;go_wp2_with (first
    | (at_builtin
       refine X0 _ rfl (.const Z2) (.tmp 21) 37 rfl w1.heap.size 47 (.agg Z3.toArray) 32 32 underlying37 Z5x Z2 0 [] rfl ⟨rfl,.inl ⟨rfl,rfl⟩⟩ ok AA a.length ac (Zy a) rfl hla.out hAr.out (Z00 a) (by unfold maxLen;omega) (by omega) (lA _) ?_;intro v2 w2 hrow2 hg2 hv2;rw[nQ,nB] at hrow2;obtain⟨VA,vc,rfl,_,_⟩:=Z6 hrow2;have hb2:Below w1.heap.size w1 w2:=Yd (v:=Z2) (n:=0) (xs:=[]) (e:=47) (size:=32) ⟨rfl,.inl ⟨rfl,rfl⟩⟩ hg2 (lA _);have hBr2:=hBr.out w2 (hb1.out.trans (hb2.mono hz1));have hz2:=hb2.size;replace hrow2:=iD hrow2;replace hb2:=iD hb2;replace hBr2:=iD hBr2;clear hg2 hv2;go_frame)
    | (at_builtin
       refine X0 _ rfl (.tmp 22) (.tmp 23) 37 rfl w1.heap.size 47 (.agg Z3.toArray) 32 32 underlying37 Z5x (.slice VA a.length vc) a.length (Zy a) rfl hrow2.out ok BA b.length bc (Zy b) rfl hlb.out hBr2.out (Z00 b) (by unfold maxLen;omega) (by omega) hz2 ?_;intro v3 w3 hrow3 hg3 hv3;obtain⟨WA,wc,rfl,_,_⟩:=Z6 hrow3;have hb3:=hb2.out.trans (Yd hrow2.out hg3 hz2);replace hrow3:=iD hrow3;replace hb3:=iD hb3;clear hg3 hv3;go_frame)
    | fail)
  have hI3:Z7 w3 (w.heap.size<=·) (.slice WA (a.length+b.length) wc) (a++b):=by
    have h:=hrow3.out;rw[<-lL,<-Zar] at h;have:=Gb h;rw[lL] at this;exact this.stay (fun _ _ _=>rfl) (fun b hb _=>lD hz1 hb.1)
  have hN3:NdsIs w3 (w.heap.size<=·) (.slice NA (Z5 L).length nc) (Z5 L):=(hN1.out w3 hb3.out).stay (fun _ _ _=>rfl) (lA _) (fun b hb _=>hb);refine (hhd.out _ _ _ w3 hN3 hI3).mono ?_;rintro e w4 ⟨v,rfl,hrow4,hb4⟩;have hb04:=hb1.out.trans (hb3.out.mono hz1);have hbf:=hb04.trans (hb4.mono hb04.size);have hrow5:=Oh hb04.size hrow4;obtain⟨HA,hc,rfl,_,_⟩:=Z6 hrow4;replace hrow5:=iD hrow5;replace hbf:=iD hbf;clear hrow4 hb4 hb04 hI3 hN3 hhd;by_cases h8:8<hs.length
  · have g8:decide ((8:Int)<(hs.length:Int))=true:=decide_eq_true (by omega)
    go_wp2_with fail;go_returns;exact⟨.inl ⟨h8,rfl⟩,hbf.out⟩
  · have g8:decide ((8:Int)<(hs.length:Int))=false:=decide_eq_false (by omega)
    go_wp2_with fail;go_returns;exact⟨.inr ⟨by omega,_,rfl,hrow5.out⟩,hbf.out⟩
theorem Zob(hS:Uy)(L:List PCom)(hH:HistOk L)(ids:List Str)(hids:InN (Z5 L) ids)(hio:hOk ids)(hil:ids.length<=1000)(a n t:Str)(ha:Yi a=true)(hn:n.length<=200)(ht:t.length<=1000)(hft:(Xw (J2 L ids)).length<=1000)(h8:(Yj (Z5 L) ids).length<=8)
  (LV IV:Value) (ok:Nat->Prop) (w:World) (hL:CsIs w ok LV L) (hI:Z7 w ok IV ids) (hK:Y9 w) :
  Calls lB 33 #[LV,IV,Z0 a,Z0 n,Z0 t] w fun e w'=>∃ p o,e=.returned (.tuple #[.agg #[p,Z0 a,Z0 n,o],.int .i64 0])/\w'.ownsRow w.heap.size 47 32 p (mkC L ids a n t).parents.length (Zy (mkC L ids a n t).parents)/\w'.ownsRow w.heap.size 178 37 o (mkC L ids a n t).ops.length (X5 (mkC L ids a n t).ops)/\Below w.heap.size w w':=by
 have hal:=nmOk_len' ha;have hnm:=fun W=>Od a W (by omega);have hmg:=iD (fun W (hb:Below w.heap.size w W)=>Zdt hS L hH ids [] hids (fun d hd=>by cases hd) hio (fun d hd=>by cases hd) (by simpa using hil) LV IV Z2 ok W (hL.stayB hb) (hI.stayB hb) Z7.nil (keys_below hK hb));have htr:=iD (fun W (hb:Below w.heap.size w W)=>Zcz L hH ids hids hio hil LV IV ok W (hL.stayB hb) (hI.stayB hb) (keys_below hK hb));have hTok:=Z40 hH ids;have hop:=iD (fun base tb mb ab ps V W hT=>Zo5 (J2 L ids) hTok.1 hTok.2 base tb mb ab ps V t ht hft W hT);rw[nR] at hmg;unfold mkC;obtain⟨hs,hhs⟩:∃ hs,hs=Yj (Z5 L) ids:=⟨_,rfl⟩;obtain⟨os,hos⟩:∃ os,os=Vm (J2 L ids) t:=⟨_,rfl⟩;rw[<-hhs] at hmg h8 ⊢;rw[<-hos] at hop ⊢;replace hhs:=iD hhs;replace hos:=iD hos;obtain⟨LA,lc,hLVe,_⟩:=hL.row;obtain⟨IA,ic,hIe,_,_⟩:=id hI;subst hLVe;subst hIe;have gn:decide ((200:Int)<(n.length:Int))=false:=decide_eq_false (by omega);clear hL hI hK hH hids hio hft;unfold Z0 at hnm hop ⊢;simp only[ha] at hnm;replace hnm:=iD hnm;go_enter func33,ntmps33;go_wp2_with fail;generalize hW1:lH w (lZ _ 82)=w1;have hb1:Below w.heap.size w w1:=by rw[<-hW1];exact bL
 have hC:Blk w1 w.heap.size 82 [Z2,.string ⟨#[]⟩,.string ⟨#[]⟩,Z2]:=by rw[<-hW1];exact Blk.new_at (cs:=[_,_,_,_]) rfl
 clear hW1;refine (hmg.out _ hb1).mono ?_;rintro e w2 ⟨hcase,hb2⟩;rcases hcase with ⟨h9,_⟩ | ⟨_,p,rfl,hP2⟩
 ·exact absurd h8 (by omega)
 obtain⟨PA,pc,rfl,_,_⟩:=Z6 hP2;have hb2':=hb1.trans (hb2.mono hb1.size);have hC2:=hC.below hb2 hC.lt;have hP2':=Oh hb1.size hP2;clear hb1 hb2 hC hP2;replace hb2':=iD hb2';replace hC2:=iD hC2;replace hP2':=iD hP2';go_wp2_with fail;refine (hnm.out _).mono ?_;rintro e w3 ⟨rfl,rfl⟩;go_wp2_with fail;refine (htr.out _ hb2'.out).mono ?_;rintro e w3 ⟨base,tb,mb,ab,ps,V,rfl,_,hT,hb3⟩;have hb3':=hb2'.out.trans (hb3.mono hb2'.out.size);have hC3:=hC2.out.below hb3 hC2.out.lt;have hP3:=Zk (L:=[]) hP2'.out (Touch.ofBelow hb3) (by simp);clear hb3 hC2 hb2' hP2';replace hT:=iD hT;replace hb3':=iD hb3';replace hC3:=iD hC3;replace hP3:=iD hP3;go_wp2_with fail;refine (hop.out _ _ _ _ _ _ _ hT.out).mono ?_;rintro e w4 ⟨OV,rfl,hO,hb4⟩;have hb4':=iD (hb3'.out.trans (hb4.mono hb3'.out.size));have hC4:=hC3.out.below hb4 hC3.out.lt;have hP4:=iD (Zk (L:=[]) hP3.out (Touch.ofBelow hb4) (by simp));obtain⟨OA,oc,rfl,_,_⟩:=Z6 hO;replace hO:=iD hO;have hs3:=hb3'.out.size;have k0:w4.cell? ⟨w.heap.size,0,none⟩=some Z2:=hC4.cell 0;have k1:w4.cell? ⟨w.heap.size,1,none⟩=some (.string ⟨#[]⟩):=hC4.cell 1;have k2:w4.cell? ⟨w.heap.size,2,none⟩=some (.string ⟨#[]⟩):=hC4.cell 2;have k3:w4.cell? ⟨w.heap.size,3,none⟩=some Z2:=hC4.cell 3;clear hb4 hC3 hop htr hmg hb3' hP3 hT;replace hC4:=iD hC4;have hsz4:(lB.info? 82).map (·.size)=some [lX PA hs.length pc,.string ⟨a.toArray⟩,.string ⟨n.toArray⟩,.slice OA os.length oc].length:=by
  have e:(lB.info? 82).map (·.size)=some 4:=by kernel_rfl
  rw[e];rfl
 replace hsz4:=iD hsz4;go_wp2_with (first | (refine Zo rfl 82 (.tmp 10) (.tmp 61) rfl w.heap.size [.slice PA hs.length pc,.string ⟨a.toArray⟩,.string ⟨n.toArray⟩,.slice OA os.length oc] rfl rfl 82 [Z2,.string ⟨#[]⟩,.string ⟨#[]⟩,Z2] hC4.out rfl hsz4.out (by simp[l5]) ?_) | fail);have htt:Touch [w.heap.size] w4 (w4.setRow w.heap.size #[lX PA hs.length pc,.string ⟨a.toArray⟩,.string ⟨n.toArray⟩,.slice OA os.length oc]):=Touch.setRow (L:=[w.heap.size]) (by simp) _;exact Ub rfl w.heap.size 82 [.slice PA hs.length pc,.string ⟨a.toArray⟩,.string ⟨n.toArray⟩,.slice OA os.length oc] _ (.int .i64 0) rfl rfl (hC4.out.setRow_same _) underlying82 rfl hsz4.out rfl ⟨_,_,rfl,Zk hP4.out htt (fun b hb hm=>by
  obtain rfl:b=w.heap.size:=by simpa using hm
  exact J7 hP4.out hC4.out (by decide) hb.symm),Oh hs3 (Zk hO.out htt (fun b hb hm=>by
  obtain rfl:b=w.heap.size:=by simpa using hm
  exact J7 hO.out hC4.out (by decide) hb.symm)),below_setRow hb4'.out (lA _) _⟩
end
section
set_option maxRecDepth 100000
set_option maxHeartbeats 16000000
open Go.Lib renaming hid → iD
open Go.Proofs.Tryz
open Go.RowKit
theorem Zoc(d ds:Str)(hd:d.length=32)(hds:ds.length=32)(p:Value)(g:Nat)(w:World)(hD:Blk w g 47 (ds.map B)) :
  Calls lB 93 #[.agg (Yq d p).toArray,.pointer (some ⟨g,0,none⟩)] w fun e w'=>e=.returned (.bool (d == ds))/\Below w.heap.size w w':=by
 obtain⟨nc,hnc⟩:∃ nc,nc=Yq d p:=⟨_,rfl⟩;have hnd:nc.drop 0=d.map B++[p]:=by rw[hnc];rfl
 rw[<-hnc];generalize hW1:(w.alloc (.cells nc.toArray 94))=w1;have hb1:Below w.heap.size w w1:=by rw[<-hW1];exact bL
 have hN1:Blk w1 w.heap.size 94 nc:=by rw[<-hW1];exact Blk.new_at (cs:=nc) rfl
 have hD1:=hD.below hb1 hD.lt;replace hnc:=iD hnc;replace hnd:=iD hnd;replace hb1:=iD hb1;replace hN1:=iD hN1;replace hD1:=iD hD1;clear hD;go_enter func93,ntmps93;go_wp2_with (first
  | (refine K3 rfl 47 (.tmp 4) rfl w.heap.size 0 rfl 94 nc (d.map B) [p] hN1.out hnd.out _ underlying47 rfl (Za hd) ?_;go_frame)
  | (refine Y0 rfl 47 (.tmp 1) rfl g rfl 47 (ds.map B) hD1.out _ underlying47 rfl (Za hds) ?_;go_frame)
  | (refine O4 rfl (.tmp 5) (.tmp 6) _ rfl d ds rfl rfl hd hds ?_;go_frame)
  | fail)
 go_ret;exact⟨rfl,hb1.out⟩
def IxN(w:World)(N:List PNd)(ds:Str)(e:Ending)(w':World):Prop:=∃ z:Int,e=.returned (.int .i64 z)/\decide (0<=z)=N.any (fun x=>x.id == ds)/\Below w.heap.size w w'
theorem Zod{N:List PNd}{k:Nat}(h:k<N.length):N.take (k+1)=N.take k++[N[k]]:=lP h
theorem Zoe(N:List PNd)(hN:NdOk N)(ds:Str)(hds:ds.length=32)(g:Nat)(NV:Value)(ok:Nat->Prop)(w:World)(h:NdsIs w ok NV N)(hD:Blk w g 47 (ds.map B)) :
  Calls lB 97 #[NV,.func (.func 93) #[] #[.pointer (some ⟨g,0,none⟩)]] w (IxN w N ds):=by
 have hNb:=iD (fun W (hb:Below w.heap.size w W)=>h.stayB hb);have hDb:=iD (fun W (hb:Below w.heap.size w W)=>hD.below hb hD.lt);have hlen:=hN.len;obtain⟨NA,nc,rfl,_⟩:=h.row;replace hN:=iD hN;clear hD h;go_enter func97,ntmps97;go_wp2;go_loopw [8] (fun i wr=>∃ k:Nat,k<=N.length/\i=.int .i64 k/\Hid ((N.take k).any (fun x=>x.id == ds)=false)/\Below w.heap.size w wr) (fun i _=>N.length - (intOf i).toNat)
 case atStart=>exact⟨0,lJ _,rfl,iD rfl,lE _ _⟩
 case round =>
  obtain⟨k,hk,rfl,ha,hb⟩:=hrel;by_cases hlt:k<N.length
  ·obtain⟨x,hx⟩:∃ x,N[k]?=some x:=⟨_,lC hlt⟩;have hxe:N[k]=x:=by rw[lC hlt] at hx;exact lM hx
   obtain⟨hxl,_,_⟩:=hN.out.fit x (lW hx);obtain⟨_,_,he,hnode⟩:=(hNb.out _ hb).row;obtain⟨gb,p,hNA,hgl,_,hidc,hpc,hpar⟩:=hnode k x hx
   injection he with he1 _ he3
   subst he1;subst he3;subst hNA;have hck:=Zd0 hxl hidc hpc;have hvl:(Yq x.id p).length=33:=Zb3 hxl _;have hca:=iD (Zoc x.id ds hxl hds p g wr (hDb.out wr hb));have hyes:Hid ((x.id == ds)=true->N.any (fun x=>x.id == ds)=true):=iD (fun e=>by
    rw[List.any_eq_true];exact⟨x,lW hx,e⟩)
   have hno:Hid ((x.id == ds)=false->(N.take (k+1)).any (fun x=>x.id == ds)=false):=iD (fun e=>by
    rw[Zod hlt,List.any_append,ha.out,hxe];simp[e])
   obtain⟨nv,hnv⟩:∃ nv,nv=Yq x.id p:=⟨_,rfl⟩;rw[<-hnv] at hck hvl hca;obtain⟨t,ht⟩:∃ t,t=(x.id == ds):=⟨_,rfl⟩;rw[<-ht] at hca hyes hno;replace ht:=iD ht;replace hnv:=iD hnv;replace hck:=iD hck;replace hx:=iD hx;replace hxe:=iD hxe;have i1:(0:Int)<=(k:Int):=by omega
   have i2:(k:Int)<(N.length:Int):=by omega
   clear hnode hidc hpc hpar;go_wp2_with (first
    | (refine l4 rfl 94 (.tmp 14) rfl gb (k*33) rfl nv _ (fun j v hv=>hck.out j v hv) underlying94 rfl (Z3l hvl) ?_;go_frame)
    | fail)
   refine hca.out.mono ?_;rintro e w2 ⟨rfl,hb2⟩;have hb3:=hb.trans (hb2.mono hb.size);clear hb2 hca;cases t with
   | true =>
    have he:Hid (N.any (fun x=>x.id == ds)=true):=iD (hyes.out rfl);go_wp2;go_ret;exact⟨k,rfl,by rw[he.out];simp,hb3⟩
   | false =>
    have he:Hid ((N.take (k+1)).any (fun x=>x.id == ds)=false):=iD (hno.out rfl);go_wp2;go_roundw
    case rel=>exact⟨k+1,by omega,by go_num,he,hb3⟩
    case measure=>simp[intOf];omega
  ·obtain rfl:k=N.length:=by omega
   have he:Hid (N.any (fun x=>x.id == ds)=false):=iD (by have:=ha.out;rwa [lK] at this);go_wp2;go_ret;exact⟨-1,rfl,by rw[he.out];simp,hb⟩
theorem Zof(N:List PNd)(hN:NdOk N)(ds:Str)(hds:ds.length=32)(g:Nat)(NV:Value)(ok:Nat->Prop)(w:World)(h:NdsIs w ok NV N)(hD:Blk w g 47 (ds.map B)) :
  Calls lB 42 #[NV,.func (.func 93) #[] #[.pointer (some ⟨g,0,none⟩)]] w fun e w'=>e=.returned (.bool (N.any (fun x=>x.id == ds)))/\Below w.heap.size w w':=by
 have hix:=iD (Zoe N hN ds hds g NV ok w h hD);obtain⟨NA,nc,rfl,_⟩:=h.row;obtain⟨t,ht⟩:∃ t,t=N.any (fun x=>x.id == ds):=⟨_,rfl⟩;unfold IxN at hix;rw[<-ht] at hix ⊢;clear h hD ht;go_enter func42,ntmps42;go_wp2_with fail;refine hix.out.mono ?_;rintro e w2 ⟨z,rfl,hz,hb2⟩;go_wp2_with fail;go_ret;exact⟨by simp,hb2⟩
def K2(T:Tab)(F:List PCom)(C:List Chg)(S:DS):Int:=if Yy T C=0 then Xa S (Xi F++J8 (Xk (Zu T C))) else Yy T C
def Ku(T:Tab)(F:List PCom)(C:List Chg)(S:DS):DS:=if Yy T C=0 then Yv S (Xi F++J8 (Xk (Zu T C))) else S
theorem Zog{X:Nat->Prop}{w0:World}{base:Nat->Prop}{r rb g by_:Nat}{ra:Str}{L:List PCom}{T:Tab}{S:DS}{w:World}(h:RpM X w0 base r rb g by_ ra false false L T S w)(hO:RpOk L T)(FV:Value)(C:List Chg)(u:Value)(hC:Yz w (Fr w) u C)(hCf:CFit C)(hA:Yy T C ≠ 0) :
  Calls lB 51 #[.pointer (some ⟨r,0,none⟩),FV,u] w fun e w'=>e=.returned (.int .i64 (Yy T C))/\Below w.heap.size w w':=by
 have hTf:=hO.fit;obtain⟨LV0,hR0,_⟩:=h.repo;obtain⟨v0,hB0,hT0⟩:=h.refs;have hall:=iD (Z68 r LV0 by_ rb g ra false _ _ v0 T _ w hR0 hB0 hT0 hTf);have hap:=iD (fun W V ok (hT:TabIs W ok V T) (hb:Below w.heap.size w W)=>Z5i T C V u _ _ W hT hTf (hC.stayB hb) hCf);obtain⟨UA,uc,rfl,_⟩:=hC.form;obtain⟨x,hx⟩:∃ x,x=Yy T C:=⟨_,rfl⟩;unfold Z1f at hap;rw[<-hx] at hap hA ⊢;have hx0:(x != 0)=true:=by simpa using hA
 replace hx:=iD hx;clear hR0 hB0 hT0 hC h hO;go_enter func51,ntmps51;go_wp2_with fail;refine hall.out.mono ?_;rintro e w1 ⟨V,rfl,ho,hb1⟩;obtain⟨VA,vc,rfl,_⟩:=ho.form;go_wp2_with fail;refine (hap.out w1 _ _ ho.tab hb1).mono ?_;rintro e w2 ⟨V,rfl,ho2,hb2⟩;obtain⟨VB,vd,rfl,_⟩:=ho2.form;have hb2':=hb1.trans (hb2.mono hb1.size);clear ho ho2 hb1 hb2;go_wp2_with fail;go_returns;exact⟨rfl,hb2'⟩
theorem Z7g(hRev:Q3){X:Nat->Prop}{w0:World}{base:Nat->Prop}{r rb g by_:Nat}{ra:Str}{L:List PCom}{T:Tab}{S:DS}{w:World}(h:RpM X w0 base r rb g by_ ra false false L T S w)(hO:RpOk L T)(hX:∀ b,X b->b<w.heap.size)
  (F:List PCom) (hF:HistOk (Zi L (Zb T)++F)) (FV:Value) (hFV:CsIs w (FrX X w) FV F) (C:List Chg) (u:Value) (hC:Yz w (Fr w) u C) (hCf:CFit C) (hcok:cOk C) (hCn:C ≠ []) (n:Nat) (hI:Inv S n) (hn:n<4000000000000) (hky:∀ W,Stay base w0 W->Y9 W) :
  Calls lB 51 #[.pointer (some ⟨r,0,none⟩),FV,u] w (Uz X w0 base r rb g ra L T F C (K2 T F C S) (Ku T F C S) w):=by
 unfold K2 Ku;by_cases hA:Yy T C=0
 ·rw[if_pos hA,if_pos hA];exact Zna hRev h hO hX F hF FV hFV C u hC hCf hcok hCn hA n hI hn hky
 ·rw[if_neg hA,if_neg hA];refine (Zog h hO FV C u hC hCf hA).mono ?_;rintro e w' ⟨rfl,hb⟩;refine⟨rfl,KeepsR.below hb,hb.size,by_,false,fun _=>rfl,?_⟩;unfold Xr Xs;rw[if_neg hA,if_neg hA];exact h.below hb
def Qg(P:List PCom)(c:PCom):Bool:=(Z5 P).any fun x=>x.id == idC c
def Jq(P:List PCom)(c:PCom):List PCom:=if Qg P c then [] else [c]
def Xd(n:Str)(old:List Str)(c:PCom):List Chg:=[⟨n,old,[idC c]⟩]
def G2(P:List PCom)(c:PCom):Bool:=!Qg P c && decide (200<=P.length)
def Vn(L:List PCom)(T:Tab)(S:DS)(n:Str)(old:List Str)(c:PCom):Int:=if G2 (Zi L (Zb T)) c then 4 else K2 T (Jq (Zi L (Zb T)) c) (Xd n old c) S
def Vo(L:List PCom)(T:Tab)(S:DS)(n:Str)(old:List Str)(c:PCom):DS:=if G2 (Zi L (Zb T)) c then S else Ku T (Jq (Zi L (Zb T)) c) (Xd n old c) S
def Zdu(X:Nat->Prop)(w0:World)(base:Nat->Prop)(r rb g:Nat)(ra:Str)(L:List PCom)(T:Tab)(n:Str)(old:List Str)(c:PCom)(E:Int)(S:DS)(w:World)(e:Ending)(w':World):Prop :=
 e=.returned (.tuple #[.agg ((if E=0 then idC c else X2).map B).toArray,.int .i64 E])/\KeepsR w w'/\w.heap.size<=w'.heap.size/\∃ by' rbr,(E ≠ 15->rbr=false)/\RpM X w0 base r rb g by' ra false rbr (Xr L T (Jq (Zi L (Zb T)) c) E) (Xs T (Xd n old c) E) S w'
theorem Zdv:Z3=X2.map B:=by unfold Z3 X2;rw[List.map_replicate]
theorem Zoh:(lB.info? 47).map (·.size)=some Z3.length:=Za (d:=X2) rfl |> fun h=>by rw[lN] at h;exact h
theorem Zoi:∀ v ∈ Z3,v.oneCell'=true:=by rw[Zdv];exact Yk _
theorem Zoj{W:World}{ok:Nat->Prop}{cb hb:Nat}{n ds:Str}{old:List Str}{OV:Value}(hC:Blk W cb 107 [Z0 n,OV,.slice (some ⟨hb,0,none⟩) 1 1])(hO:Z7 W ok OV old)(hH:Blk W hb 47 (ds.map B))(h1:ok cb)(h2:ok hb) :
  Yz W ok (.slice (some ⟨cb,0,none⟩) 1 1) [⟨n,old,[ds]⟩]:=by
 refine⟨_,1,[(OV,.slice (some ⟨hb,0,none⟩) 1 1)],rfl,rfl,lA _,Rd.of_blk (r:=[]) hC rfl h1,fun k b u e1 e2=>?_⟩
 match k,e1,e2 with
 | 0,e1,e2 =>
  simp only[List.getElem?_cons_zero,Option.some.injEq] at e1 e2;subst e1;subst e2;exact⟨hO,⟨_,1,rfl,lA _,Rd.of_blk (r:=[]) hH (by simp[Zy]) h2⟩⟩
 | k+1,e1,_=>simp at e1
theorem Zok{W:World}{ok:Nat->Prop}{fb:Nat}{cs:List Value}{c:PCom}(hB:Blk W fb 82 cs)(hok:ok fb)(hc:Y8 W ok cs c):CsIs W ok (.slice (some ⟨fb,0,none⟩) 1 1) [c] :=
 ⟨_,1,rfl,fun i e he=>by
  rcases i with _ | i
  ·obtain rfl:c=e:=by simpa using he
   exact⟨fb,0,cs,rfl,hok,hB.lt,hc,fun j u hj=>by rw[hB.cell];simpa using hj⟩
  ·simp at he⟩
theorem Zol(hRev:Q3){X:Nat->Prop}{w0:World}{base:Nat->Prop}{r rb g by_:Nat}{ra:Str}{L:List PCom}{T:Tab}{S:DS}{w:World}(h:RpM X w0 base r rb g by_ ra false false L T S w)(hO:RpOk L T)(hX:∀ b,X b->b<w.heap.size)
    (n:Str) (hnl:n.length<=1000000) (old:List Str) (OV:Value) (hOV:Z7 w (Fr w) OV old) (hold:hOk old) (holl:old.length<=1000) (c:PCom) (cs:List Value) (hc:Y8 w (FrX X w) cs c) (hcf:ComFit c) (hcm:MayOk c) (hnx:Qg (Zi L (Zb T)) c=false->NextOk (Z5 (Zi L (Zb T))) (Zi L (Zb T)) c)
    (m:Nat) (hI:Inv S m) (hm:m<4000000000000) (hky:∀ W,Stay base w0 W->Y9 W) :
    Calls lB 34 #[.pointer (some ⟨r,0,none⟩),Z0 n,OV,.agg cs.toArray] w (Zdu X w0 base r rb g ra L T n old c (Vn L T S n old c) (Vo L T S n old c) w):=by
  have hbz:=iD h.size;have hPh:=hO.hist.past (Zb T);have hidl:=Q0 c;obtain⟨E,hE⟩:∃ E,E=Vn L T S n old c:=⟨_,rfl⟩;obtain⟨Se,hSe⟩:∃ Se,Se=Vo L T S n old c:=⟨_,rfl⟩;rw[<-hE,<-hSe];unfold Vn at hE;unfold Vo at hSe;replace hE:=iD hE;replace hSe:=iD hSe;obtain⟨PA,pc,OA,oc,rfl⟩:=hc.form4;obtain⟨OVA,ovc,rfl,_,_⟩:=id hOV;unfold Z0 at hc ⊢;generalize hW1:(w.alloc (.cells #[.slice PA c.parents.length pc,.string ⟨c.author.toArray⟩,.string ⟨c.note.toArray⟩,.slice OA c.ops.length oc] 82))=w1;have hb1:Below w.heap.size w w1:=by rw[<-hW1];exact bL
  have hX1:Blk w1 w.heap.size 82 [.slice PA c.parents.length pc,.string ⟨c.author.toArray⟩,.string ⟨c.note.toArray⟩,.slice OA c.ops.length oc]:=by rw[<-hW1];exact Blk.new_at (cs:=[.slice PA c.parents.length pc,.string ⟨c.author.toArray⟩,.string ⟨c.note.toArray⟩,.slice OA c.ops.length oc]) rfl
  obtain⟨xb,hxb⟩:∃ xb,xb=w.heap.size:=⟨_,rfl⟩;rw[<-hxb] at hX1;have hz4:∀ (a b c d:Value),(lB.info? 82).map (·.size)=some [a,b,c,d].length:=fun _ _ _ _=>Z26 rfl;replace hz4:=iD hz4;replace hxb:=iD hxb;go_enter func34,ntmps34;go_wp2_with (first
    | (refine Y0 rfl 82 (.tmp 7) rfl w.heap.size rfl 82 [.slice PA c.parents.length pc,.string ⟨c.author.toArray⟩,.string ⟨c.note.toArray⟩,.slice OA c.ops.length oc] (by rw[<-hxb.out];exact hX1.alloc _) _ underlying82 rfl (hz4.out _ _ _ _) ?_
       generalize hW2:lH w1 _=w2;go_frame)
    | fail)
  have hb2:Below w1.heap.size w1 w2:=by rw[<-hW2];exact bL
  have hZ2:Blk w2 w1.heap.size 47 Z3:=by rw[<-hW2];exact Blk.new_at (cs:=Z3) rfl
  have hX2:=hX1.below hb2 hX1.lt;have hb02:=hb1.trans (hb2.mono hb1.size);obtain⟨zb,hzb⟩:∃ zb,zb=w1.heap.size:=⟨_,rfl⟩;have hxb':=hxb.out;have hwz:w.heap.size<=zb:=by have:=hb1.size;omega
  have hxz:xb ≠ zb:=by have:=hX1.lt;omega
  rw[<-hzb] at hZ2 ⊢;rw[<-hxb'];clear hW1 hW2 hb2 hX1 hb1 hzb hxb';refine (Z6k c _ _ w2 (hc.stayB hb02) hcf hcm (hky _ (h.bel.calm hb02))).mono ?_;rintro e w3 ⟨rfl,hb3⟩;have hZ3:=hZ2.below hb3 hZ2.lt;have hX3:=hX2.below hb3 hX2.lt;have hb03:=hb02.trans (hb3.mono hb02.size);clear hb3 hZ2 hX2 hb02;obtain⟨ds,hds⟩:∃ ds,ds=idC c:=⟨_,rfl⟩;have hdl:ds.length=32:=by rw[hds];exact hidl
  rw[<-hds];replace hds:=iD hds;replace hdl:=iD hdl;replace hZ3:=iD hZ3;replace hX3:=iD hX3;replace hb03:=iD hb03;replace hky:=iD hky;replace h:=iD h;replace hO:=iD hO;replace hc:=iD hc;replace hOV:=iD hOV;replace hX:=iD hX;replace hnx:=iD hnx;go_wp2_with (first
    | (refine Zo rfl 47 (.tmp 10) (.tmp 21) rfl w3.heap.size (ds.map B) rfl rfl 47 Z3 (Blk.new_at rfl) (by simp[hdl.out,Z3]) (Za hdl.out) (Yk _) ?_
       generalize hw1:lV _ w3.heap.size (ds.map B).toArray=w4;have hD4:Blk w4 w3.heap.size 47 (ds.map B):=by
         rw[<-hw1];exact (Blk.new_at (w:=w3) (t:=47) (cs:=Z3) rfl).setRow_same (ds.map B)
       have hb4:Below w3.heap.size w3 w4:=by
         rw[<-hw1];exact below_setRow ((lE w3.heap.size w3).alloc (lA _) (.cells Z3.toArray 47)) (lA _) (ds.map B).toArray
       clear hw1;replace hD4:=iD hD4;replace hb4:=iD hb4;go_frame)
    | fail)
  have hZ4:=hZ3.out.below hb4.out hZ3.out.lt;have hX4:=hX3.out.below hb4.out hX3.out.lt;have hb04:=hb03.out.trans (hb4.out.mono hb03.out.size);have hD4':=hD4.out;obtain⟨db,hdb⟩:∃ db,db=w3.heap.size:=⟨_,rfl⟩;have hdz:zb<db/\xb<db:=by have:=hZ3.out.lt;have:=hX3.out.lt;omega
  rw[<-hdb] at hD4' ⊢;clear hdb hD4 hb4 hZ3 hX3 hb03;have hM4:=h.out.below hb04;refine (Z46 hRev hM4 hO.out).mono ?_;rintro e w5 ⟨PV,rfl,hP5,hb5⟩;obtain⟨PVA,pvc,rfl⟩:=hP5.form;have hK5:Y9 w5:=hky.out _ (hM4.bel.calm hb5);have hnd:=Zcy (Zi L (Zb T)) hPh _ _ w5 hP5.read hK5;obtain⟨P,hPd⟩:∃ P,P=Zi L (Zb T):=⟨_,rfl⟩;rw[<-hPd] at hnd hP5 hPh hnx hE hSe ⊢;have hPl:P.length<=200:=hPh.len;replace hPd:=iD hPd;clear hP5 hM4 hK5;go_wp2_with fail;refine hnd.mono ?_;rintro e w6 ⟨NV,rfl,hN6,hb6⟩;have hN6':=hN6.nds Zds;obtain⟨NA,nc,rfl,_⟩:=hN6.form;have hb46:=hb5.trans (hb6.mono hb5.size);have hD6:=hD4'.below hb46 hD4'.lt;have hct:=Zof (Z5 P) hPh.ndsAll ds hdl.out db _ _ w6 hN6' hD6;obtain⟨th,hth⟩:∃ th,th=Qg P c:=⟨_,rfl⟩;have hth':(Z5 P).any (fun x=>x.id == ds)=th:=by rw[hth,hds.out];rfl
  rw[hth'] at hct;clear hN6 hN6' hth' hnd;replace hth:=iD hth;replace hct:=iD hct;replace hb46:=iD hb46;go_wp2_with fail;refine hct.out.mono ?_;rintro e w7 ⟨rfl,hb7⟩;have hb47:=hb46.out.trans (hb7.mono hb46.out.size);have hZ7:=hZ4.below hb47 hZ4.lt;have hX7:=hX4.below hb47 hX4.lt;have hD7:=hD4'.below hb47 hD4'.lt;have hb07:=hb04.trans (hb47.mono hb04.size);have hz7:db<w7.heap.size:=hD7.lt;clear hct hb5 hb6 hb7 hb46 hb47 hZ4 hX4 hD4' hb04 hD6;replace hZ7:=iD hZ7;replace hX7:=iD hX7;replace hD7:=iD hD7;replace hb07:=iD hb07;go_upto_region 7 with fail;have hzz0:Z3=X2.map B:=Zdv;have hzi:(lB.info? 47).map (·.size)=some Z3.length:=Zoh;have hzo:∀ v ∈ Z3,v.oneCell'=true:=Zoi;replace hzi:=iD hzi;replace hzo:=iD hzo;replace hzz0:=iD hzz0;by_cases h4:G2 P c=true
  · as_aux_lemma =>
      have hEv:E=4/\Se=S:=by
        rw[hE.out,hSe.out,if_pos h4,if_pos h4];exact⟨rfl,rfl⟩
      unfold G2 at h4;rw[<-hth.out] at h4;simp only[lS,lT,decide_eq_true_eq] at h4;obtain⟨ht,hl4⟩:=h4;have g2:decide ((200:Int)<=(P.length:Int))=true:=decide_eq_true (by omega);rw[ht];replace hth:=hth.out;clear hth;go_wp2_with (first
        | (refine Zo rfl 47 (.tmp 8) (.tmp 44) rfl zb Z3 rfl rfl 47 Z3 hZ7.out rfl hzi.out hzo.out ?_;go_frame)
        | fail)
      have hbf:=below_setRow hb07.out hwz Z3.toArray;refine Ub rfl zb 47 Z3 _ (.int .i64 4) rfl rfl (hZ7.out.setRow_same _) underlying47 rfl hzi.out rfl ?_;rw[hEv.1,hEv.2];refine⟨by rw[if_neg (by decide),<-hzz0.out],KeepsR.below hbf,hbf.size,by_,false,fun _=>rfl,?_⟩;unfold Xr Xs;rw[if_neg (by decide),if_neg (by decide)];exact h.out.below hbf
  · have hEv:E=K2 T (Jq P c) (Xd n old c) S/\Se=Ku T (Jq P c) (Xd n old c) S:=by
      rw[hE.out,hSe.out,if_neg h4,if_neg h4];exact⟨rfl,rfl⟩
    have hF:HistOk (P++Jq P c):=by
      unfold Jq;by_cases ht:Qg P c=true
      · rw[if_pos ht,nR]
        exact hPh
      · rw[if_neg ht]
        refine hPh.snoc ?_ (hnx.out (by simpa using ht));unfold G2 at h4;simp only[lS,lT,decide_eq_true_eq,not_and] at h4;have:=h4 (by simpa using ht);omega
    have h4':(!th && decide ((200:Int)<=(P.length:Int)))=false:=by
      unfold G2 at h4;rw[<-hth.out] at h4;cases th with
      | true=>rfl
      | false =>
        simp only[nS,nT,decide_eq_true_eq] at h4;simp;omega
    have hFe:Jq P c=if th=true then [] else [c]:=by unfold Jq;rw[<-hth.out]
    obtain⟨F,hFd⟩:∃ F,F=Jq P c:=⟨_,rfl⟩;rw[<-hFd] at hF hFe hEv;replace hEv:=iD hEv;replace hFd:=iD hFd;replace hFe:=iD hFe;replace hth:=iD hth;go_cut [43] (fun v wx=>v=.bool false/\w7=wx)
    case first =>
      cases th with
      | true=>go_wp2_with fail;go_meet;exact⟨rfl,rfl⟩
      | false =>
        simp only[nS,nT] at h4';go_wp2_with fail;go_meet;exact⟨rfl,rfl⟩
    case rest =>
      obtain⟨rfl,rfl⟩:=hcut;go_upto_if 46 with fail;go_cut [16] (fun v wx=>Below w7.heap.size w7 wx/\CsIs wx (FrX (fun b=>X b ∨ b=zb) wx) v F)
      case first =>
        cases th with
        | true =>
          have hF0:F=[]:=by rw[hFe.out,if_pos rfl]
          replace hF0:=iD hF0;go_wp2_with fail;go_meet;exact⟨lE _ _,by rw[hF0.out];exact CsIs.nilV⟩
        | false =>
          have hF0:F=[c]:=by rw[hFe.out,if_neg (by decide)]
          replace hF0:=iD hF0;have x0:w7.cell? ⟨xb,0,none⟩=some (.slice PA c.parents.length pc):=hX7.out.cell 0;have x1:w7.cell? ⟨xb,1,none⟩=some (.string ⟨c.author.toArray⟩):=hX7.out.cell 1;have x2:w7.cell? ⟨xb,2,none⟩=some (.string ⟨c.note.toArray⟩):=hX7.out.cell 2;have x3:w7.cell? ⟨xb,3,none⟩=some (.slice OA c.ops.length oc):=hX7.out.cell 3;go_wp2_with fail;go_meet;refine⟨bL,?_⟩;rw[hF0.out];have hba:=hb07.out.trans (((lE w7.heap.size w7).alloc (lA _) (.cells #[.slice PA c.parents.length pc,.string ⟨c.author.toArray⟩,.string ⟨c.note.toArray⟩,.slice OA c.ops.length oc] 82)).mono hb07.out.size);have hB:=(Blk.new_at (w:=w7) (t:=82) (cs:=[.slice PA c.parents.length pc,.string ⟨c.author.toArray⟩,.string ⟨c.note.toArray⟩,.slice OA c.ops.length oc]) rfl);refine Zok hB ⟨Zcv hB,fun hx=>?_⟩ (hc.out.stay (fun b _ hl=>hba.block b hl) (fun b hb hl=>⟨(KeepsR.below hba).fr hb.1,fun hx=>?_⟩))
          · rcases hx with hx | hx
            · have h1:=hX.out _ hx
              have h2:=hb07.out.size;omega
            · have h1:=hZ7.out.lt
              omega
          · rcases hx with hx | hx
            · exact hb.2 hx
            · omega
      case rest =>
        obtain⟨hbx,hFV⟩:=hcut;have hD8:=hD7.out.below hbx hD7.out.lt;have hZ8:=hZ7.out.below hbx hZ7.out.lt;have hb08:=hb07.out.trans (hbx.mono hb07.out.size);have hdB:Hid ((ds.map B).length=32):=iD (by simp[hdl.out]);have hz8:=hbx.size;clear hX7 hD7 hZ7 hb07 hbx;replace hD8:=iD hD8;replace hZ8:=iD hZ8;replace hb08:=iD hb08;replace hFV:=iD hFV;go_wp2_with (first
          | (refine Y0 rfl 47 (.tmp 10) rfl db rfl 47 (ds.map B) hD8.out _ underlying47 rfl (Za hdl.out) ?_)
          | (refine Zho (.tmp 53) rfl rfl (ds.map B) hdB.out rfl ?_
             generalize hW9:lH wc _=w9;replace hW9:=iD hW9;have hs9:w9.heap.size=wc.heap.size+1:=by rw[<-hW9.out];simp
             replace hs9:=iD hs9;go_frame)
          | fail)
        generalize hW10:lH w9 _=w10;have hb9:Below wc.heap.size wc w9:=by rw[<-hW9.out];exact bL
        have hH9:Blk w9 wc.heap.size 47 (ds.map B):=by rw[<-hW9.out];exact Blk.new_at (cs:=ds.map B) rfl
        have hb10:Below w9.heap.size w9 w10:=by rw[<-hW10];exact bL
        have hC10:Blk w10 w9.heap.size 107 [Z0 n,.slice OVA old.length ovc,.slice (some ⟨wc.heap.size,0,none⟩) 1 1]:=by rw[<-hW10];exact Blk.new_at (cs:=[Z0 n,.slice OVA old.length ovc,.slice (some ⟨wc.heap.size,0,none⟩) 1 1]) rfl
        have hH10:=hH9.below hb10 hH9.lt;have hb810:=hb9.trans (hb10.mono hb9.size);have hb010:=hb08.out.trans (hb810.mono hb08.out.size);have hZ10:=hZ8.out.below hb810 hZ8.out.lt;have hD10:=hD8.out.below hb810 hD8.out.lt;have hO10:=hOV.out.stay (fun b hb hl=>hb010.block b hl) (fun b hb _=>(KeepsR.below hb010).fr hb);have hch:=Zoj (ok:=Fr w10) (n:=n) (ds:=ds) hC10 hO10 hH10 ⟨_,_,hC10,by decide,by decide,by decide,by decide⟩ ⟨_,_,hH10,by decide,by decide,by decide,by decide⟩;rw[hds.out] at hch;have hF10:=hFV.out.keepX (KeepsR.below hb810) hb810.size;have hM10:RpM (fun b=>X b ∨ b=zb) w0 base r rb g by_ ra false false L T S w10:=(h.out.wide.below hb010).weak (fun b hb=>by
          rcases hb with hb | hb
          · exact .inl hb
          · exact .inr (by omega))
        have hzb10:=hZ10.lt;have hX10:∀ b,(X b ∨ b=zb)->b<w10.heap.size:=fun b hb=>by
          rcases hb with hb | hb
          · have h1:=hX.out b hb
            have h2:=hb010.size;omega
          · omega
        have hF':HistOk (Zi L (Zb T)++F):=by rw[<-hPd.out];exact hF
        have hnew:hOk [idC c]:=fun d hd=>by
          obtain rfl:=l8.1 hd;exact hidl
        have hCf:CFit (Xd n old c):=⟨by simp[Xd],fun x hx=>by
          obtain rfl:=l8.1 hx;exact⟨by show n.length<=_;omega,⟨by show old.length<=_;omega,hold⟩,⟨by simp,hnew⟩⟩⟩
        have hck:cOk (Xd n old c):=fun x hx=>by
          obtain rfl:=l8.1 hx;exact⟨hold,hnew⟩
        have htu:=Z7g hRev hM10 hO.out hX10 F hF' u16 hF10 (Xd n old c) _ hch hCf hck (by simp[Xd]) m hI hm hky.out;rw[<-hEv.out.1,<-hEv.out.2] at htu;have hk10:=KeepsR.below hb010;have hz10:=hb010.size;clear hch hW10 hW9 hs9 hb9 hH9 hb10 hC10 hH10 hb810 hF10 hM10 hO10 hD8 hZ8 hb08 hFV hdB hCf hck hF' hX10 hb010;replace hZ10:=iD hZ10;replace hD10:=iD hD10;replace hk10:=iD hk10;refine htu.mono ?_;rintro e w11 ⟨rfl,hk11,hz11,by',rbr,hrb,hM11⟩;have hZ11:=hk11.blk _ _ _ hZ10.out (by decide) (by decide) (by decide) (by decide);have hD11:=hk11.blk _ _ _ hD10.out (by decide) (by decide) (by decide) (by decide);have hkk:=hk10.out.trans hk11;have hzz11:=lD hz10 hz11;have hfin:Hid (∀ ds':Str,ds'.length=32->ds'=(if E=0 then idC c else X2)->Zdu X w0 base r rb g ra L T n old c E Se w (.returned (.tuple #[.agg (ds'.map B).toArray,.int .i64 E])) (w11.setRow zb (ds'.map B).toArray)):=iD (fun ds' hl' he'=>by
          have ht12:Touch [zb] w11 (w11.setRow zb (ds'.map B).toArray):=Touch.setRow (by simp) _;refine⟨by rw[he'],⟨fun k t' cs hB a1 a2 a3 a4=>(hkk.blk k t' cs hB a1 a2 a3 a4).touch ht12 (fun hmm=>?_),fun k o ho hmm=>Gh ht12 (hkk.mark k o ho hmm) (fun hmm=>?_)⟩,lD hzz11 ht12.size,by',rbr,hrb,?_⟩
          · have:=hB.lt
            obtain rfl:k=zb:=by simpa using hmm
            omega
          · have:=On ho
            obtain rfl:k=zb:=by simpa using hmm
            omega
          · rw[<-hPd.out,<-hFd.out]
            refine (hM11.touch ht12 (fun i hi=>?_)).weak (fun b hb=>.inl hb);obtain rfl:i=zb:=by simpa using hi
            exact⟨.inr rfl,hbz.out _ (by omega),_,_,hZ11,by decide,by decide,by decide,by decide,by decide⟩)
        clear hZ10 hD10 hk10 hk11 htu hkk;replace hZ11:=iD hZ11;replace hD11:=iD hD11;replace hM11:=iD hM11;replace hrb:=iD hrb;by_cases hE0:E=0
        · have hg0:(E != 0)=false:=by simpa using hE0
          have hf:=hfin.out ds hdl.out (by rw[if_pos hE0];exact hds.out);rw[hE0] at hf;replace hf:=iD hf;go_wp2_with (first
            | (refine Y0 rfl 47 (.tmp 10) rfl db rfl 47 (ds.map B) hD11.out _ underlying47 rfl (Za hdl.out) ?_)
            | (refine Zo rfl 47 (.tmp 8) (.tmp 62) rfl zb (ds.map B) rfl rfl 47 Z3 hZ11.out (by simp[hdl.out,Z3]) (Za hdl.out) (Yk _) ?_)
            | fail)
          rw[hE0];exact Ub rfl zb 47 (ds.map B) _ (.int .i64 0) rfl rfl (hZ11.out.setRow_same _) underlying47 rfl (Za hdl.out) rfl hf.out
        · have hg0:(E != 0)=true:=by simpa using hE0
          have hf:=hfin.out X2 rfl (by rw[if_neg hE0]);rw[<-hzz0.out] at hf;replace hf:=iD hf;go_wp2_with (first
            | (refine Zo rfl 47 (.tmp 8) (.tmp 60) rfl zb Z3 rfl rfl 47 Z3 hZ11.out rfl hzi.out hzo.out ?_;go_frame)
            | fail)
          exact Ub rfl zb 47 Z3 _ (.int .i64 E) rfl rfl (hZ11.out.setRow_same _) underlying47 rfl hzi.out rfl hf.out
end
end Go.Proofs.YtfdimggmljkkbaaGreatDoor
