import Derived.Test.YtefjlobdifjogaaGreatDoorP09
open Go renaming wpQuiet_nil → lE, rounds_succ → lF, wp_loop_rounds → lH, wpList_load_mid → lL, wp_region_quiet_lit → lQ
open Go.Instr renaming build → lN, lookup → lU
open Go.Obj renaming cells → lJ
open Go.Proofs.Tryz renaming prog → lB
open Go.RowKit.Below renaming refl → lD, heap_setCell → lM
open Go.Value renaming oneCell' → lW, pointer → l6, bool → l8
open Go.World renaming alloc → lC, setRow → lG, setCell → l5, cell?_spot → l9
open List renaming mem_map → lI, getElem?_eq_getElem → lK, length_cons → lO, length_eq_zero_iff → lP, map_cons → lS, map_nil → lT, take_succ_cons → lX, take_zero → lY, drop_succ_cons → lZ, drop_zero → l4, mem_range → nA
open Nat renaming le_refl → lA, zero_le → lR, le_trans → l7
open Option.some renaming inj → lV
namespace Go.Proofs.YtefjlobdifjogaaGreatDoor
section
set_option maxRecDepth 100000
set_option maxHeartbeats 4000000
open Go.Lib renaming hid → iD
open Go.Proofs.Tryz
open Go.RowKit
theorem Z8y(d:Str)(n:Int)(hd:d.length=32)(w:World):(lN 261 #[(1,.agg (d.map B).toArray),(2,.int .i64 n)]).run lB w=.ok (.agg (Z4 ⟨false,d,n⟩).toArray) w:=by
 iterate 32 (rcases d with _ | ⟨_,d⟩;· (exfalso;simp at hd;done))
 obtain rfl:d=[]:=by
  simp only[lO] at hd;exact lP.1 (by omega)
 kernel_rfl
theorem exec_build2{P:Program}{w:World}{o:Oper}{a:Act}(t:TypeId)(i0 i1:Nat)(x0 x1:Operand)(ho:o.op=.build t #[(i0,x0),(i1,x1)])(V0 V1 r:Value)(h0:a.eval x0=V0)(h1:a.eval x1=V1)
  (h:(lN t #[(i0,V0),(i1,V1)]).run P w=.ok r w):(execOp a.eval o).run P w=.ok (.value r) w:=by
 simp only[execOp,ho,List.map_toArray,lS,lT,h0,h1,Sem.run_bind,h,Result.andThen_ok,Sem.run_pure]
abbrev Z0h(nb mb ab:Nat)(seen:Int):List Value:=[.pointer (some ⟨nb,0,none⟩),.map (some mb),.map (some ab),.int .i64 seen]
theorem Zhg(tb nb mb ab:Nat)(seen:Int)(id:Str)(w:World)(hT:Blk w tb 342 (Z0h nb mb ab seen)) :
  Calls lB 236 #[.pointer (some ⟨tb,0,none⟩),.agg (id.map B).toArray,Y8 Zh] w fun e w'=>e=.returned (.pointer (some ⟨nb,0,none⟩))/\Below w.heap.size w w':=by
 unfold Y8;generalize hW1:((w.alloc (.cells (id.map B).toArray 59)).alloc (.cells (Z4 Zh).toArray 261))=w1;have hb1:Below w.heap.size w w1:=by rw[<-hW1];exact bL.alloc (by simp) _
 have hR:Blk w1 (w.heap.size+1) 261 (Z4 Zh):=by rw[<-hW1];exact Blk.new_at (cs:=Z4 Zh) (by simp)
 have hT1:=hT.below hb1 hT.lt;have c0:w1.cell? ⟨tb,0,none⟩=some (.pointer (some ⟨nb,0,none⟩)):=hT1.cell 0;have r0:w1.cell? ⟨w.heap.size+1,0,none⟩=some (.bool false):=hR.cell 0;replace hR:=iD hR;replace hb1:=iD hb1;clear hT hT1;go_enter func236,ntmps236;go_wp2_with (first
  | (refine Zy rfl 261 (.tmp 5) rfl (w.heap.size+1) rfl 261 (Z4 Zh) hR.out _ underlying261 rfl (Qj rfl) ?_)
  | (refine Z3p rfl (.tmp 13) (.tmp 14) _ rfl Zh Zh rfl rfl rfl rfl ?_;rw[show (Zh.own == Zh.own && (Zh.com == Zh.com && Zh.n == Zh.n))=true by decide];go_frame)
  | fail)
 go_ret;exact⟨rfl,hb1.out⟩
theorem Zhh(tb nb mb ab:Nat)(seen:Int)(es:List (Value × Value))(id:Str)(hid:id.length=32)(k p:Nat)(w:World)(hT:Blk w tb 342 (Z0h nb mb ab seen))(hM:Z8 w mb es)(hk:∀ q ∈ es,Z1p q.1)
  (hm:(Y8 ⟨false,id,((k+1:Nat):Int)⟩,l6 (some ⟨p,0,none⟩)) ∈ es) (hu:∀ q ∈ es,q.1=Y8 ⟨false,id,((k+1:Nat):Int)⟩->q.2=.pointer (some ⟨p,0,none⟩)) (hkb:k<=100000) :
  Calls lB 236 #[.pointer (some ⟨tb,0,none⟩),.agg (id.map B).toArray,Y8 (Kv (k+1))] w fun e w'=>e=.returned (.pointer (some ⟨p,0,none⟩))/\Below w.heap.size w w':=by
 unfold Y8;generalize hW1:((w.alloc (.cells (id.map B).toArray 59)).alloc (.cells (Z4 (Kv (k+1))).toArray 261))=w1;have hb1:Below w.heap.size w w1:=by rw[<-hW1];exact bL.alloc (by simp) _
 have hI:Blk w1 w.heap.size 59 (id.map B):=by rw[<-hW1];exact (Blk.new_at (cs:=id.map B) rfl).alloc _
 have hR:Blk w1 (w.heap.size+1) 261 (Z4 (Kv (k+1))):=by rw[<-hW1];exact Blk.new_at (cs:=Z4 (Kv (k+1))) (by simp)
 have hT1:=hT.below hb1 hT.lt;have hM1:=hM.below hb1 hM.lt;have r0:w1.cell? ⟨w.heap.size+1,0,none⟩=some (.bool true):=hR.cell 0;have r33:w1.cell? ⟨w.heap.size+1,33,none⟩=some (.int .i64 ((k+1:Nat):Int)):=hR.cell 33;obtain⟨r,hr⟩:∃ r:PRef,r=⟨false,id,((k+1:Nat):Int)⟩:=⟨_,rfl⟩;have hrc:r.com.length=32:=by rw[hr];exact hid
 have hbr:(r.own == Zh.own && (r.com == Zh.com && r.n == Zh.n))=false:=by
  have : (r.n == Zh.n)=false:=by rw[hr];simp[Zh];omega
  rw[this];simp
 rw[<-hr] at hm hu;have hrun:∀ w',(∃ n,w'=(w1.setRow (w.heap.size+1) (Z4 r).toArray).drewN n)->(lU 340 (.map (some mb)) (Y8 r) false).run lB w'=.ok (.pointer (some ⟨p,0,none⟩)) w':=by
  rintro _ ⟨n,rfl⟩;have hM2:Z8 ((w1.setRow (w.heap.size+1) (Z4 r).toArray).drewN n) mb es:=hM1.block (setRow_other _ _ _ _ (by have:=hM.lt;omega));exact hM2.look_some Z7b underlying340 hk ⟨r,hrc,rfl⟩ hm hu false
 have hT2:=hT1.setRow_far (g':=w.heap.size+1) (by have:=hT.lt;omega) (Z4 r).toArray;have c1:(w1.setRow (w.heap.size+1) (Z4 r).toArray).cell? ⟨tb,1,none⟩=some (.map (some mb)):=hT2.cell 1;have hR2:=iD (hR.setRow_same (Z4 r));have hb2:=iD (below_setRow hb1 (Nat.le_succ w.heap.size) (Z4 r).toArray);replace hR:=iD hR;replace hI:=iD hI;replace hr:=iD hr;replace hrun:=iD hrun;clear hT hT1 hM hM1 hm hu hk hT2 hb1;go_enter func236,ntmps236;go_wp2_with (first
  | (refine Zy rfl 59 (.tmp 4) rfl w.heap.size rfl 59 (id.map B) hI.out _ underlying59 rfl (Zg hid) ?_)
  | (refine J5 rfl (.agg (Z4 r).toArray) (exec_build2 261 1 2 (.tmp 9) (.tmp 11) rfl (.agg (id.map B).toArray) (.int .i64 ((k+1:Nat):Int)) _ rfl rfl (by rw[hr.out];exact Z8y id _ hid _)) ?_)
  | (refine Zd rfl 261 (.tmp 5) (.tmp 12) rfl (w.heap.size+1) (Z4 r) rfl rfl 261 (Z4 (Kv (k+1))) hR.out (by simp[Z4,hrc,Kv,Yf]) (Qj hrc) (Z80 _) ?_)
  | (refine Zy rfl 261 (.tmp 5) rfl (w.heap.size+1) rfl 261 (Z4 r) hR2.out _ underlying261 rfl (Qj hrc) ?_)
  | (refine Z3p rfl (.tmp 13) (.tmp 14) _ rfl r Zh rfl rfl hrc rfl ?_;rw[hbr];go_frame)
  | fail)
 have hrun':=hrun.out;have hR2':=hR2.out;have hb2':=hb2.out;generalize (w1.setRow (w.heap.size+1) (Z4 r).toArray)=w2 at c1 hrun' hR2' hb2' ⊢;have hR3:Hid (∀ w',(∃ n,w'=w2.drewN n)->Blk w' (w.heap.size+1) 261 (Z4 r)):=iD (by rintro _ ⟨n,rfl⟩;exact hR2'.drewN n);replace hrun':=iD hrun';replace hb2':=iD hb2';clear hrun hR2 hb2 r0 r33 hR2';refine lQ (by kernel_rfl) (by kernel_rfl) ?_;repeat (first
  | go_big_quiet_step (fail)
  | (refine Yq 261 (.tmp 5) rfl rfl (w.heap.size+1) 0 rfl 261 (Z4 r) (Z4 r) [] hR3.out (by simp) _ underlying261 rfl (Qj hrc) ?_;go_frame)
  | (refine Zc (.lookup 340 (.tmp 23) (.tmp 24) false) rfl rfl (.pointer (some ⟨p,0,none⟩)) (fun w' hw'=>Kb 340 (.tmp 23) (.tmp 24) false rfl _ _ _ rfl rfl (hrun'.out w' hw')) ?_;go_frame))
 refine lE ?_;rintro _ ⟨nq,rfl⟩;go_wp2_with fail;go_ret;exact⟨rfl,hb2'.out.trans ((Touch.drewN (L:=[]) nq).below hb2'.out.size (fun _ hi=>by cases hi))⟩
end
section
set_option maxRecDepth 100000
set_option maxHeartbeats 8000000
open Go.Lib renaming hid → iD
open Go.Proofs.Tryz
open Go.RowKit
theorem Zhi{t:Str}{m:Nat}(h:m<t.length):∃ h':m<(chain t).length,(chain t)[m]=Zb m t[m]:=by
 have hcl:(chain t).length=t.length:=Jq t 0;refine⟨by omega,?_⟩;have h1:=Z1x t 0 m h;rw[Nat.zero_add] at h1;exact lV ((lK (by rw[hcl];exact h)).symm.trans h1)
theorem Z2d{w:World}{ok:Nat->Prop}{A:Option Addr}{c:Nat}{t:Str}(h:Zl w ok (.slice A t.length c) (chain t))(ht:t.length<=2000){m:Nat}(hm:m<t.length) :
  ∃ b o,A=some ⟨b,o,none⟩/\b<w.heap.size/\∀ j v,(Z9 (Zb m t[m]))[j]?=some v->w.cell? ⟨b,o+m*37+j,none⟩=some v:=by
 have hcl:(chain t).length=t.length:=Jq t 0;obtain⟨hmc,hat⟩:=Zhi hm;rw[<-hcl] at h;obtain⟨b,o,hA,_,hbl,hcells⟩:=h.op (Z3w (by omega)).ok m hmc;rw[hat] at hcells;exact⟨b,o,hA,hbl,hcells⟩
theorem Zhj(t:Str)(ht:t.length<=1000)(tb nb mb ab:Nat)(seen:Int)(es us:List (Value × Value))(id:Str)(hid:id.length=32)(o:Value)(ok:Nat->Prop)(w:World)
    (hT:Blk w tb 342 (Z0h nb mb ab seen)) (hM:Z8 w mb es) (hA:Z8 w ab us) (hk:∀ q ∈ us,Ue q.1) (hn:∀ q ∈ us,q.1 ≠ .agg (id.map B).toArray) (hes:es.length+t.length<=400000) (h:Zl w ok o (chain t)) :
    Calls lB 235 #[.pointer (some ⟨tb,0,none⟩),.agg (id.map B).toArray,o] w fun e w'=>e=.returned (.int .i64 0)/\Below w.heap.size w w':=by
  have hcl:(chain t).length=t.length:=Jq t 0;obtain⟨OA,oc,rfl,hoc,hor⟩:=h;have hO:Hid (Zl w ok (.slice OA (chain t).length oc) (chain t)):=iD ⟨OA,oc,rfl,hoc,hor⟩;rw[hcl] at hO ⊢;clear hor hoc;generalize hW1:(w.alloc (.cells (id.map B).toArray 59))=w1;have hb1:Below w.heap.size w w1:=by rw[<-hW1];exact bL
  have hI:Blk w1 w.heap.size 59 (id.map B):=by rw[<-hW1];exact Blk.new_at (cs:=id.map B) rfl
  have hT1:=hT.below hb1 hT.lt;have hM1:=hM.below hb1 hM.lt;have hA1:=hA.below hb1 hA.lt;have c2:w1.cell? ⟨tb,2,none⟩=some (.map (some ab)):=hT1.cell 2;have hrun:Hid (∀ w',(∃ n,w'=w1.drewN n)->(lU 41 (.map (some ab)) (.agg (id.map B).toArray) true).run lB w'=.ok (.tuple #[.int .i64 0,.bool false]) w'):=iD (by
    rintro _ ⟨n,rfl⟩;have hA2:Z8 (w1.drewN n) ab us:=hA1.block rfl;exact hA2.look_none Ja underlying41 (by kernel_rfl) hk ⟨id,hid,rfl⟩ hn true)
  have hI3:Hid (∀ w',(∃ n,w'=w1.drewN n)->Blk w' w.heap.size 59 (id.map B)):=iD (by rintro _ ⟨n,rfl⟩;exact hI.drewN n);have hTb:=iD (fun W (hb:Below w1.heap.size w1 W)=>(show W.cell? ⟨tb,1,none⟩=some (.map (some mb))/\Z8 W mb es from ⟨(hT1.below hb hT1.lt).cell 1,hM1.below hb hM1.lt⟩));have hb1':=iD hb1;clear hT hM hA hT1 hM1 hA1 hk hn hI hb1;go_enter func235,ntmps235;go_wp2_with fail;refine lQ (by kernel_rfl) (by kernel_rfl) ?_;repeat (first
    | go_big_quiet_step (fail)
    | (refine Yq 59 (.tmp 4) rfl rfl w.heap.size 0 rfl 59 (id.map B) (id.map B) [] hI3.out (by simp) _ underlying59 rfl (Zg hid) ?_;go_frame)
    | (refine Zc (.lookup 41 (.tmp 19) (.tmp 20) true) rfl rfl (.tuple #[.int .i64 0,.bool false]) (fun w' hw'=>Kb 41 (.tmp 19) (.tmp 20) true rfl _ _ _ rfl rfl (hrun.out w' hw')) ?_;go_frame))
  refine lE ?_;rintro _ ⟨nq,rfl⟩;have hb2:=iD (hb1'.out.trans ((Touch.drewN (w:=w1) (L:=[]) nq).below hb1'.out.size (fun _ hi=>by cases hi)));have hb12:=iD ((Touch.drewN (w:=w1) (L:=[]) nq).below (lA _) (fun _ hi=>by cases hi));generalize w1.drewN nq=w2 at hb2 hb12 ⊢;clear hrun hI3 c2;go_wp2_with fail;go_loopw [9,27] (fun n i wr=>∃ m:Nat,m<=t.length/\n=.int .i64 m/\i=.int .i64 m/\Below w2.heap.size w2 wr) (fun _ i _=>t.length - (intOf i).toNat)
  case atStart=>exact⟨0,lR _,rfl,rfl,lD _ _⟩
  case round =>
    obtain⟨m,hm,rfl,rfl,hbr⟩:=hrel;by_cases hlt:m<t.length
    · have hOr:=hO.out.stayB (hb2.out.trans (hbr.mono hb2.out.size))
      obtain⟨b,o,rfl,hbl,hcells⟩:=Z2d hOr (by omega) hlt;obtain⟨c,hc⟩:∃ c,c=t[m]:=⟨_,rfl⟩;rw[<-hc] at hcells;have hf:=Vq (k:=m) c (by omega);have i1:(0:Int)<=(m:Int):=by omega
      have i2:(m:Int)<(t.length:Int):=by omega
      replace hcells:=iD hcells;replace hc:=iD hc;replace hbr:=iD hbr;clear hOr hO hTb;go_wp2_with (first
        | (refine lL rfl 278 (.tmp 29) rfl b (o+m*37) rfl (Z9 (Zb m c)) _ (fun j v hv=>hcells.out j v hv) underlying278 rfl (Kx hf) ?_)
        | (refine Zd rfl 278 (.tmp 11) (.tmp 30) rfl wr.heap.size (Z9 (Zb m c)) rfl rfl 278 Yn (Blk.new_at rfl) (by rw[Jo hf];rfl) (Kx hf) (Kw _) ?_
           generalize hw1:lG _ wr.heap.size (Z9 (Zb m c)).toArray=w9;have hB9:Blk w9 wr.heap.size 278 (Z9 (Zb m c)):=by
             rw[<-hw1];exact (Blk.new_at (w:=wr) (t:=278) (cs:=Yn) rfl).setRow_same (Z9 (Zb m c))
           have hb9:Below wr.heap.size wr w9:=by
             rw[<-hw1];exact below_setRow ((lD wr.heap.size wr).alloc (lA _) (.cells Yn.toArray 278)) (lA _) (Z9 (Zb m c)).toArray
           clear hw1;have q0:w9.cell? ⟨wr.heap.size,0,none⟩=some (.int .i64 1):=hB9.cell 0;replace hB9:=iD hB9;replace hb9:=iD hb9;go_frame)
        | fail)
      refine⟨⟨m+1,by omega,by go_num,by go_num,hbr.out.trans (hb9.out.mono hbr.out.size)⟩,by simp[intOf];omega⟩
    · have hmt:m=t.length:=by omega
      subst hmt;replace hbr:=iD hbr;obtain⟨c1,hMr⟩:=hTb.out wr (hb12.out.trans (hbr.out.mono hb12.out.size));have g1:decide ((2000:Int)<(t.length:Int))=false:=decide_eq_false (by omega);have hlen:=fun ty=>hMr.len underlying340 ty;clear hTb hMr;go_wp2_with fail;obtain⟨w3,hw3⟩:∃ w3:World,w3=wr:=⟨_,rfl⟩;rw[<-hw3] at hbr c1 hlen ⊢;have hb3:=iD (hb2.out.trans (hbr.out.mono hb2.out.size));clear hbr hw3 hlen c1 hb12;go_loopw [52] (fun i wr=>∃ m:Nat,m<=t.length/\i=.int .i64 m/\Below w3.heap.size w3 wr) (fun i _=>t.length - (intOf i).toNat)
      case atStart=>exact⟨0,lR _,rfl,lD _ _⟩
      case round =>
        obtain⟨m,hm,rfl,hbr⟩:=hrel;by_cases hlt:m<t.length
        · have hOr:=hO.out.stayB (hb3.out.trans (hbr.mono hb3.out.size))
          obtain⟨b,o,rfl,hbl,hcells⟩:=Z2d hOr (by omega) hlt;obtain⟨c,hc⟩:∃ c,c=t[m]:=⟨_,rfl⟩;rw[<-hc] at hcells;have hf:=Vq (k:=m) c (by omega);have i1:(0:Int)<=(m:Int):=by omega
          have i2:(m:Int)<(t.length:Int):=by omega
          have hri:=iD (fun W (hb:Below wr.heap.size wr W)=>Z7l t _ ok m W (hOr.stayB hb) (by omega) hlt);replace hcells:=iD hcells;replace hc:=iD hc;replace hbr:=iD hbr;clear hOr hO;go_wp2_with (first
            | (refine lL rfl 278 (.tmp 55) rfl b (o+m*37) rfl (Z9 (Zb m c)) _ (fun j v hv=>hcells.out j v hv) underlying278 rfl (Kx hf) ?_)
            | (refine Zd rfl 278 (.tmp 13) (.tmp 56) rfl wr.heap.size (Z9 (Zb m c)) rfl rfl 278 Yn (Blk.new_at rfl) (by rw[Jo hf];rfl) (Kx hf) (Kw _) ?_
               generalize hw1:lG _ wr.heap.size (Z9 (Zb m c)).toArray=w9;have hB9:Blk w9 wr.heap.size 278 (Z9 (Zb m c)):=by
                 rw[<-hw1];exact (Blk.new_at (w:=wr) (t:=278) (cs:=Yn) rfl).setRow_same (Z9 (Zb m c))
               have hb9:Below wr.heap.size wr w9:=by
                 rw[<-hw1];exact below_setRow ((lD wr.heap.size wr).alloc (lA _) (.cells Yn.toArray 278)) (lA _) (Z9 (Zb m c)).toArray
               clear hw1;replace hB9:=iD hB9;replace hb9:=iD hb9;go_frame)
            | fail)
          refine (hri.out _ hb9.out).mono ?_;rintro e w10 ⟨rfl,hb10⟩;have hB10:=hB9.out.below hb10 hB9.out.lt;have hbr10:=iD (hbr.out.trans ((hb9.out.mono hbr.out.size).trans (hb10.mono (l7 hbr.out.size hb9.out.size))));clear hri hb10;have hB3:Hid (∀ w',(∃ n,w'=w10.drewN n)->Blk w' wr.heap.size 278 (Z9 (Zb m c))):=iD (by rintro _ ⟨n,rfl⟩;exact hB10.drewN n);have hsr:=iD (Qj (r:=(Zb m c).at_) (Qx m));by_cases hm0:m=0
          · have hne:(!((Zb m c).at_.own == Zh.own && ((Zb m c).at_.com == Zh.com && (Zb m c).at_.n == Zh.n)))=false:=by
              rw[hm0];rfl
            go_wp2_with fail;refine lQ (by kernel_rfl) (by kernel_rfl) ?_;repeat (first
              | go_big_quiet_step (fail)
              | (refine Yq 261 (.tmp 64) rfl rfl wr.heap.size 2 rfl 278 (Z9 (Zb m c)) (Z4 (Zb m c).at_) [B c] hB3.out rfl _ underlying261 rfl hsr.out ?_;go_frame)
              | (refine Zc (.binOp .neq 261 (.tmp 65) (.tmp 66) 261) rfl rfl (.bool false) (fun w' _=>(Z8x w' rfl (Zb m c).at_ Zh rfl rfl (Qx m) rfl).trans (by rw[hne])) ?_;go_frame))
            refine lE ?_;rintro _ ⟨nq2,rfl⟩;have hbf:=hbr10.out.trans ((Touch.drewN (L:=[]) nq2).below hbr10.out.size (fun _ hi=>by cases hi));go_wp2_with fail;refine⟨⟨m+1,by omega,by go_num,hbf⟩,by simp[intOf];omega⟩
          · have hne:(!((Zb m c).at_.own == Zh.own && ((Zb m c).at_.com == Zh.com && (Zb m c).at_.n == Zh.n)))=true:=by
              have : (Zb m c).at_.own=true:=by
                show (Xd m).own=true;rw[G3];simp[hm0]
              rw[this];rfl
            have p2:w10.cell? ⟨wr.heap.size,2,none⟩=some (.bool true):=by
              have:=(Qy hB10 hf).2.2.1;rw[this];show some (l8 (Xd m).own)=_;rw[G3];simp[hm0]
            go_wp2_with fail;refine lQ (by kernel_rfl) (by kernel_rfl) ?_;repeat (first
              | go_big_quiet_step (fail)
              | (refine Yq 261 (.tmp 64) rfl rfl wr.heap.size 2 rfl 278 (Z9 (Zb m c)) (Z4 (Zb m c).at_) [B c] hB3.out rfl _ underlying261 rfl hsr.out ?_;go_frame)
              | (refine Zc (.binOp .neq 261 (.tmp 65) (.tmp 66) 261) rfl rfl (.bool true) (fun w' _=>(Z8x w' rfl (Zb m c).at_ Zh rfl rfl (Qx m) rfl).trans (by rw[hne])) ?_;go_frame))
            refine lE ?_;rintro _ ⟨nq2,rfl⟩;have hbf:=hbr10.out.trans ((Touch.drewN (L:=[]) nq2).below hbr10.out.size (fun _ hi=>by cases hi));go_wp2_with fail;refine⟨⟨m+1,by omega,by go_num,hbf⟩,by simp[intOf];omega⟩
        · have hmt:m=t.length:=by omega
          subst hmt;go_wp2_with fail;go_returns;exact⟨rfl,hb3.out.trans (hbr.mono hb3.out.size)⟩
end
section
set_option maxRecDepth 100000
set_option maxHeartbeats 8000000
open Go.Lib renaming hid → iD
open Go.Proofs.Tryz
open Go.RowKit
open Go.Maps Go.MapKept Go.ChangeMaps
theorem Zhk(x f:Value)(w:World):Calls lB 237 #[Z0,x,f] w fun e w'=>e=.returned (.tuple #[.int .i64 0,.bool false])/\w'=w:=by
 go_enter func237,ntmps237;go_wp2_with fail;refine lH 1 ?_;rw[lF];go_wp2_with fail;go_returns;exact⟨rfl,rfl⟩
theorem Zhl(a:Addr)(n:Nat)(w:World)(hc:w.cell? a=some (.pointer (some ⟨n,0,none⟩))):Calls lB 239 #[Z0,.int .i64 0,.slice (some a) 1 1] w fun e w' =>
  ∃ V,e=.returned V/\w'.ownsRow w.heap.size 330 1 V 1 [.pointer (some ⟨n,0,none⟩)]/\Below w.heap.size w w':=by
 have hsp:=l9 hc;obtain⟨b,o,sp⟩:=a;dsimp only at hsp;subst hsp;have hrd:Rd w (fun _=>True) (some ⟨b,o,none⟩) [.pointer (some ⟨n,0,none⟩)]:=fun _=>⟨_,rfl,trivial,fun j u hj=>by
  cases j with
  | zero=>simpa[Jk] using (lV hj) ▸ hc
  | succ j=>simp at hj⟩
 have hnil:w.ownsRow w.heap.size 330 1 Z0 0 []:=⟨rfl,.inl ⟨rfl,rfl⟩⟩;go_enter func239,ntmps239;go_wp2_with (at_builtin;refine Yt _ rfl (.tmp 23) (.tmp 24) 328 rfl w.heap.size 330 (.pointer none) 1 8 underlying328 Z7g Z0 0 [] rfl hnil (fun _=>True) (some ⟨b,o,none⟩) 1 1 [.pointer (some ⟨n,0,none⟩)] rfl rfl hrd (by simp[lW]) (by unfold maxLen;omega) (by omega) (lA _) ?_;intro v4 W4 hrow4 hg4 hv4;replace hrow4:=iD hrow4;replace hg4:=iD hg4;clear hv4;obtain⟨VA,vc,rfl,_,_⟩:=Za hrow4.out;go_frame);go_returns;exact⟨_,rfl,by simpa using hrow4.out,Yo hnil hg4.out (lA _)⟩
theorem Zhm(r:PRef)(c:UInt8)(hr:r.com.length=32)(w:World):(lN 332 #[(0,.agg (Z4 r).toArray),(1,B c)]).run lB w=.ok (.agg (Yl r c false Z0 Z0).toArray) w:=by
 obtain⟨o,d,n⟩:=r;dsimp only at hr
 iterate 32 (rcases d with _ | ⟨_,d⟩;· (exfalso;simp at hr;done))
 obtain rfl:d=[]:=by
  simp only[lO] at hr;exact lP.1 (by omega)
 kernel_rfl
def byE(id:Str)(nf:Nat->Nat)(m:Nat):List (Value × Value):=(List.range m).map fun i=>(Y8 ⟨false,id,((i+1:Nat):Int)⟩,l6 (some ⟨nf i,0,none⟩))
structure AddSt (W0 W:World) (tb nb mb ab:Nat) (id t:Str) (m:Nat) (nf:Nat->Nat) (rf:Nat->Value):Prop where
 touch:Touch [tb,nb,mb,ab] W0 W
 tree:Blk W tb 342 (Z0h nb mb ab m)
 last:rf m=Z0
 root:Blk W nb 332 (Yl Zh 0 true Z0 (rf 0))
 node:∀ i c,i<m->t[i]?=some c->Blk W (nf i) 332 (Yl ⟨false,id,((i+1:Nat):Int)⟩ c false Z0 (rf (i+1)))/\W0.heap.size<=nf i
 link:∀ i,i<m->∃ a cap cs,rf i=.slice (some a) 1 cap/\W.cell? a=some (.pointer (some ⟨nf i,0,none⟩))/\Blk W a.block 330 cs/\W0.heap.size<=a.block
 by_:Z8 W mb (byE id nf m)
 added:Z8 W ab [(.agg (id.map B).toArray,.int .i64 t.length)]
theorem AddSt.calm{W0 W W':World}{tb nb mb ab:Nat}{id t:Str}{m:Nat}{nf:Nat->Nat}{rf:Nat->Value}(h:AddSt W0 W tb nb mb ab id t m nf rf)(hb:Below W.heap.size W W'):AddSt W0 W' tb nb mb ab id t m nf rf :=
 ⟨h.touch.under (hb.mono h.touch.size),h.tree.below hb h.tree.lt,h.last,h.root.below hb h.root.lt,fun i c hi hc=>⟨(h.node i c hi hc).1.below hb (h.node i c hi hc).1.lt,(h.node i c hi hc).2⟩,
  fun i hi=>by
   obtain⟨a,cap,cs,h1,h2,h3,h4⟩:=h.link i hi;exact⟨a,cap,cs,h1,(hb.cell (p:=a) h3.lt).trans h2,h3.below hb h3.lt,h4⟩,h.by_.below hb h.by_.lt,h.added.below hb h.added.lt⟩
theorem Z8z{W0 W:World}{tb nb mb ab:Nat}{id t:Str}{m:Nat}{nf:Nat->Nat}{rf:Nat->Value}(h:AddSt W0 W tb nb mb ab id t m nf rf)(hm:m=t.length):∀ (s:Str) (k:Nat),t.drop k=s->k+s.length=m->∃ ns,Vp W id k s (rf k) ns
 | [],k,_,hk=>⟨[],by
   have : k=m:=by simpa using hk
   subst this;exact h.last,rfl⟩
 | c :: s,k,hd,hk=>by
  have hkm:k<m:=by simp at hk;omega
  have hc:t[k]?=some c:=by
   have : (t.drop k)[0]?=some c:=by rw[hd];rfl
   simpa using this
  have hd':t.drop (k+1)=s:=by
   have : (t.drop k).drop 1=s:=by rw[hd];rfl
   simpa[List.drop_drop,Nat.add_comm] using this
  obtain⟨ns,hns⟩:=Z8z h hm s (k+1) hd' (by simp at hk;omega);obtain⟨a,cap,cs,h1,h2,_,_⟩:=h.link k hkm;exact⟨nf k :: ns,a,cap,nf k,rf (k+1),ns,h1,h2,(h.node k c hkm hc).1,hns,rfl⟩
theorem Kz{w w':World}{b:Nat}(h:w.mapTurned w' b):Touch [b] w w':=by
 obtain⟨es,ck,es',ck',hb,rfl⟩:=h;refine⟨rfl,rfl,rfl,by simp[setBlock],fun i hi hn=>?_⟩;have : b ≠ i:=fun e=>hn (by simp[e]);simp[setBlock,this]
theorem Z8.touch{L:List Nat}{w w':World}{b:Nat}{es:List (Value × Value)}(h:Z8 w b es)(ht:Touch L w w')(hn:b ∉ L):Z8 w' b es:=h.block (ht.block _ h.lt hn)
theorem Z8.ne_blk{w:World}{b g:Nat}{es:List (Value × Value)}{t:TypeId}{cs:List Value}(h:Z8 w b es)(hB:Blk w g t cs):g ≠ b:=fun e=>by
 obtain⟨xs,c,h1,_⟩:=h;rw[e] at hB;have:=hB.symm.trans h1
 injection this with this
 cases this
theorem Xs(d:Str)(h:d.length=32):Ue (.agg (d.map B).toArray):=⟨d,h,rfl⟩
theorem Zhn(t:Str)(ht:t.length<=1000)(tb nb mb ab:Nat)(id:Str)(hid:id.length=32)(o:Value)(ok:Nat->Prop)(w:World)(hT:TreeAt w tb nb mb ab 0 [] [] Z0)(hok:∀ b,ok b->b ∉ [tb,nb,mb,ab])(hmab:mb ≠ ab)
    (h:Zl w ok o (chain t)) :
    Calls lB 168 #[.pointer (some ⟨tb,0,none⟩),.agg (id.map B).toArray,o] w fun e w'=>e=.returned (.int .i64 0)/\∃ nf rf,AddSt w w' tb nb mb ab id t t.length nf rf:=by
  have hcl:(chain t).length=t.length:=Jq t 0;obtain⟨OA,oc,rfl,hoc,hor⟩:=h;have hO:Hid (Zl w ok (.slice OA (chain t).length oc) (chain t)):=iD ⟨OA,oc,rfl,hoc,hor⟩;rw[hcl] at hO ⊢;clear hor hoc;generalize hW1:(w.alloc (.cells (id.map B).toArray 59))=w1;have hb1:Below w.heap.size w w1:=by rw[<-hW1];exact bL
  have hI:Blk w1 w.heap.size 59 (id.map B):=by rw[<-hW1];exact Blk.new_at (cs:=id.map B) rfl
  have hT1:=hT.below hb1;have hmade:=iD (Z1q tb nb mb ab 0 [] [] Z0 w1 hT1);have hwr:=iD (Zhj t ht tb nb mb ab 0 [] [] id hid (.slice OA t.length oc) ok w1 hT1.tree hT1.by_ hT1.added (by simp) (by simp) (by simp;omega) (hO.out.stayB hb1));replace hI:=iD hI;replace hT1:=iD hT1;replace hb1:=iD hb1;go_enter func168,ntmps168;go_wp2_with fail;refine hmade.out.mono ?_;rintro e w2 ⟨rfl,rfl⟩;go_wp2_with (first
    | (refine Zy rfl 59 (.tmp 4) rfl w.heap.size rfl 59 (id.map B) hI.out _ underlying59 rfl (Zg hid) ?_)
    | fail)
  refine hwr.out.mono ?_;rintro e w3 ⟨rfl,hb3⟩;have hI3:=hI.out.below hb3 hI.out.lt;have hT3:=hT1.out.below hb3;have hb3':=hb1.out.trans (hb3.mono hb1.out.size);have c2:w3.cell? ⟨tb,2,none⟩=some (.map (some ab)):=hT3.tree.cell 2;clear hmade hwr hb3 hI hT1 hb1;have hI4:Hid (∀ w',(∃ n,w'=w3.drewN n)->Blk w' w.heap.size 59 (id.map B)):=iD (by rintro _ ⟨n,rfl⟩;exact hI3.drewN n);replace hI3:=iD hI3;replace hT3:=iD hT3;replace hb3':=iD hb3';go_wp2_with fail;refine Y7 7 (by kernel_rfl) (by kernel_rfl) ?_;simp only[lX,lY,lZ,l4];repeat (first
    | go_big_quiet_step (fail)
    | (refine Yq 59 (.tmp 4) rfl rfl w.heap.size 0 rfl 59 (id.map B) (id.map B) [] hI4.out (by simp) _ underlying59 rfl (Zg hid) ?_;go_frame))
  refine lE ?_;rintro _ ⟨nq,rfl⟩;have hA3:Z8 (w3.drewN nq) ab []:=hT3.out.added.block rfl;obtain⟨w4,hrun,hA4,ht4⟩:=hA3.store Ja underlying41 (by simp) (Xs id hid) (by simp) (.int .i64 t.length);have htab:Touch [ab] (w3.drewN nq) w4:=Kz ht4;refine Ob rfl (Oa 41 (.tmp 28) (.tmp 29) (.tmp 31) rfl _ _ _ rfl rfl rfl hrun) ?_;have hT4':Touch [tb,nb,mb,ab] w w4:=((Touch.ofBelow (hb3'.out.trans ((Touch.drewN (L:=[]) nq).below hb3'.out.size (fun _ hi=>by cases hi)))).trans htab (fun i hi=>.inl (by simp at hi ⊢;exact .inr (.inr (.inr hi)))));have hab:=hT3.out.added.lt;have hmb:=hT3.out.by_;have hn1:tb ≠ ab:=hT3.out.added.ne_blk hT3.out.tree;have hn2:nb ≠ ab:=hT3.out.added.ne_blk hT3.out.root;have hablt:ab<w.heap.size:=hT.added.lt;have hst4:AddSt w w4 tb nb mb ab id t 0 (fun _=>0) (fun _=>Z0):=⟨hT4',(hT3.out.tree.drewN nq).touch htab (by simpa using hn1),rfl,(hT3.out.root.drewN nq).touch htab (by simpa using hn2),fun i c hi=>by omega,fun i hi=>by omega,(hmb.block rfl:Z8 (w3.drewN nq) mb []).touch htab (by simpa using hmab),by simpa using hA4⟩;have hI5:Blk w4 w.heap.size 59 (id.map B):=(hI3.out.drewN nq).touch htab (by simp;omega);clear hrun hA4 ht4 hA3 hmb hI4 c2;replace hst4:=iD hst4;replace hI5:=iD hI5;go_wp2_with fail;go_loopw [34] (fun i wr=>∃ (m:Nat) (nf:Nat->Nat) (rf:Nat->Value),m<=t.length/\i=.int .i64 m/\AddSt w wr tb nb mb ab id t m nf rf/\Blk wr w.heap.size 59 (id.map B)) (fun i _=>t.length - (intOf i).toNat)
  case atStart=>exact⟨0,_,_,lR _,rfl,hst4.out,hI5.out⟩
  case round =>
    obtain⟨m,nf,rf,hm,rfl,hst,hIr⟩:=hrel;by_cases hlt:m<t.length
    · have hOr:Zl wr ok (.slice OA t.length oc) (chain t):=hO.out.stay (fun b hb hl=>hst.touch.block b hl (hok b hb)) (fun b hb _=>hb)
      obtain⟨b,o,rfl,hbl,hcells⟩:=Z2d hOr (by omega) hlt;obtain⟨c,hc⟩:∃ c,c=t[m]:=⟨_,rfl⟩;rw[<-hc] at hcells;have hf:=Vq (k:=m) c (by omega);have i1:(0:Int)<=(m:Int):=by omega
      have i2:(m:Int)<(t.length:Int):=by omega
      replace hcells:=iD hcells;replace hc:=iD hc;replace hst:=iD hst;replace hIr:=iD hIr;have hsr:=iD (Qj (r:=(Zb m c).at_) (Qx m));clear hOr hO;go_wp2_with (first
        | (refine lL rfl 278 (.tmp 37) rfl b (o+m*37) rfl (Z9 (Zb m c)) _ (fun j v hv=>hcells.out j v hv) underlying278 rfl (Kx hf) ?_)
        | (refine Zd rfl 278 (.tmp 9) (.tmp 38) rfl wr.heap.size (Z9 (Zb m c)) rfl rfl 278 Yn (Blk.new_at rfl) (by rw[Jo hf];rfl) (Kx hf) (Kw _) ?_
           generalize hw1:lG _ wr.heap.size (Z9 (Zb m c)).toArray=w9;have hB9:Blk w9 wr.heap.size 278 (Z9 (Zb m c)):=by
             rw[<-hw1];exact (Blk.new_at (w:=wr) (t:=278) (cs:=Yn) rfl).setRow_same (Z9 (Zb m c))
           have hb9:Below wr.heap.size wr w9:=by
             rw[<-hw1];exact below_setRow ((lD wr.heap.size wr).alloc (lA _) (.cells Yn.toArray 278)) (lA _) (Z9 (Zb m c)).toArray
           clear hw1;have hI9:=iD (hIr.out.below hb9 hIr.out.lt);replace hB9:=iD hB9;replace hb9:=iD hb9;go_frame)
        | (refine Zy rfl 59 (.tmp 4) rfl w.heap.size rfl 59 (id.map B) hI9.out _ underlying59 rfl (Zg hid) ?_)
        | (refine Xj rfl 261 (.tmp 41) rfl wr.heap.size 2 rfl 278 (Z9 (Zb m c)) (Z4 (Zb m c).at_) [B c] hB9.out rfl _ underlying261 rfl hsr.out ?_)
        | fail)
      have hst9:=hst.out.calm hb9.out;obtain⟨cur,hcur⟩:∃ cur,cur=if m=0 then nb else nf (m - 1):=⟨_,rfl⟩;have hfind:Calls lB 236 #[.pointer (some ⟨tb,0,none⟩),.agg (id.map B).toArray,.agg (Z4 (Zb m c).at_).toArray] w9 fun e w'=>e=.returned (.pointer (some ⟨cur,0,none⟩))/\Below w9.heap.size w9 w':=by
        show Calls lB 236 #[.pointer (some ⟨tb,0,none⟩),.agg (id.map B).toArray,Y8 (Xd m)] w9 _;by_cases hm0:m=0
        · rw[hcur,if_pos hm0,hm0]
          exact Zhg tb nb mb ab _ id w9 hst9.tree
        · obtain⟨k,rfl⟩:∃ k,m=k+1:=⟨m - 1,by omega⟩
          rw[hcur,if_neg hm0,Z83];refine Zhh tb nb mb ab _ _ id hid k _ w9 hst9.tree hst9.by_ ?_ ?_ ?_ (by omega)
          · intro q hq
            obtain⟨i,_,rfl⟩:=lI.1 hq;exact⟨_,hid,rfl⟩
          · exact lI.2 ⟨k,by simp,rfl⟩
          · intro q hq he
            obtain⟨i,_,rfl⟩:=lI.1 hq;have h1:=(Z3r (r:=⟨false,id,((i+1:Nat):Int)⟩) (s:=⟨false,id,((k+1:Nat):Int)⟩) hid hid).1 he
            injection h1 with _ _ h1
            have : i=k:=by omega
            subst this;rfl
      refine hfind.mono ?_;rintro e w10 ⟨rfl,hb10⟩;have hst10:=hst9.calm hb10;have hB10:=hB9.out.below hb10 hB9.out.lt;have hI10:=iD (hI9.out.below hb10 hI9.out.lt);obtain⟨p0,p1,_,_,p36⟩:=Qy hB10 hf;have q0:w10.cell? ⟨wr.heap.size,0,none⟩=some (.int .i64 1):=p0;have q36:w10.cell? ⟨wr.heap.size,36,none⟩=some (B c):=p36;have hcurB:∃ rc bc gc,Blk w10 cur 332 (Yl rc bc gc Z0 Z0)/\rc.com.length=32/\(cur=nb ∨ w.heap.size<=cur):=by
        by_cases hm0:m=0
        · refine⟨Zh,0,true,?_,rfl,.inl (by rw[hcur,if_pos hm0])⟩
          have h1:=hst10.root;have h2:=hst10.last;rw[hm0] at h2;rw[h2] at h1;rw[hcur,if_pos hm0];exact h1
        · obtain⟨k,rfl⟩:∃ k,m=k+1:=⟨m - 1,by omega⟩
          obtain⟨h1,h2⟩:=hst10.node k t[k] (by omega) (lK (by omega));rw[hst10.last] at h1;have e:cur=nf k:=by rw[hcur,if_neg hm0,Nat.add_sub_cancel]
          exact⟨_,_,_,by rw[e];exact h1,hid,.inr (by rw[e];exact h2)⟩
      obtain⟨rc,bc,gc,hcB,hrc,hcw⟩:=hcurB;replace hcB:=iD hcB;replace hcw:=iD hcw;replace hcur:=iD hcur;have hb10':=iD hb10;replace hst10:=iD hst10;replace hB10:=iD hB10;clear hb10 hfind hst9 hst hIr hcells;go_wp2_with (first
        | (refine Zy rfl 59 (.tmp 4) rfl w.heap.size rfl 59 (id.map B) hI10.out _ underlying59 rfl (Zg hid) ?_)
        | (refine J5 rfl (.agg (Z4 ⟨false,id,(m:Int)+1⟩).toArray) (exec_build2 261 1 2 (.tmp 62) (.tmp 64) rfl (.agg (id.map B).toArray) (.int .i64 ((m:Int)+1)) _ rfl rfl (Z8y id _ hid _)) ?_)
        | (refine J5 rfl (.agg (Yl ⟨false,id,(m:Int)+1⟩ c false Z0 Z0).toArray) (exec_build2 332 0 1 (.tmp 65) (.tmp 67) rfl (.agg (Z4 ⟨false,id,(m:Int)+1⟩).toArray) (B c) _ rfl rfl (Zhm ⟨false,id,(m:Int)+1⟩ c hid _)) ?_)
        | fail)
      obtain⟨nr,hnr⟩:∃ nr:PRef,nr=⟨false,id,(m:Int)+1⟩:=⟨_,rfl⟩;have hnrc:nr.com.length=32:=by rw[hnr];exact hid
      rw[<-hnr];generalize hW11:lC w10 (lJ _ 332)=w11;have hN11:Blk w11 w10.heap.size 332 (Yl nr c false Z0 Z0):=by rw[<-hW11];exact Blk.new_at (cs:=Yl nr c false Z0 Z0) rfl
      have hb11:Below w10.heap.size w10 w11:=by rw[<-hW11];exact bL
      have hst11:=hst10.out.calm hb11;have hB11:=hB10.out.below hb11 hB10.out.lt;have hI11:=hI10.out.below hb11 hI10.out.lt;have hc11:=hcB.out.below hb11 hcB.out.lt;have t1:w11.cell? ⟨tb,1,none⟩=some (.map (some mb)):=hst11.tree.cell 1;have hN12:Hid (∀ w',(∃ n,w'=w11.drewN n)->Blk w' w10.heap.size 332 (Yl nr c false Z0 Z0)):=iD (by rintro _ ⟨n,rfl⟩;exact hN11.drewN n);clear hW11 q0 q36 p0 p1 p36;replace hst11:=iD hst11;replace hB11:=iD hB11;replace hI11:=iD hI11;replace hc11:=iD hc11;replace hnr:=iD hnr;refine Y7 9 (by kernel_rfl) (by kernel_rfl) ?_;simp only[lX,lY,lZ,l4];repeat (first
        | go_big_quiet_step (fail)
        | (refine Yq 261 (.tmp 76) rfl rfl w10.heap.size 0 rfl 332 (Yl nr c false Z0 Z0) (Z4 nr) [B c,.bool false,Z0,Z0] hN12.out rfl _ underlying261 rfl (Qj hnrc) ?_;go_frame))
      refine lE ?_;rintro _ ⟨nq2,rfl⟩;have hM11:Z8 (w11.drewN nq2) mb (byE id nf m):=hst11.out.by_.block rfl;obtain⟨w12,hrun,hM12,ht12⟩:=hM11.store Z7b underlying340 (fun q hq=>by
        obtain⟨i,_,rfl⟩:=lI.1 hq;exact⟨_,hid,rfl⟩) (⟨nr,hnrc,rfl⟩:Z1p (Y8 nr)) (fun q hq he=>by
        obtain⟨i,hi,rfl⟩:=lI.1 hq;have h1:=(Z3r (r:=⟨false,id,((i+1:Nat):Int)⟩) hid hnrc).1 he;rw[hnr.out] at h1
        injection h1 with _ _ h1
        have:=nA.1 hi;omega) (.pointer (some ⟨w10.heap.size,0,none⟩))
      have ht12':=Kz ht12;have hk12:∀ g t' cs,Blk w11 g t' cs->Blk w12 g t' cs:=fun g t' cs hB=>(hB.drewN nq2).touch ht12' (by simpa using hM11.ne_blk (hB.drewN nq2));have hT12:=hk12 _ _ _ hst11.out.tree;have hB12:=hk12 _ _ _ hB11.out;have hc12:=hk12 _ _ _ hc11.out;have hI12:=hk12 _ _ _ hI11.out;have hN12':=hk12 _ _ _ hN11;have n1:wr.heap.size ≠ tb:=hB12.ne_ hT12 (by decide);have n2:cur ≠ tb:=hc12.ne_ hT12 (by decide);have t3:w12.cell? ⟨tb,3,none⟩=some (.int .i64 m):=hT12.cell 3;have f3:=hT12.frozen 3;have x1:∀ u,(w12.setCell ⟨tb,3,none⟩ u).cell? ⟨wr.heap.size,1,none⟩=some (.bool false):=fun u=>(hB12.far (p:=⟨tb,3,none⟩) n1 u).cell 1;have x37:∀ u,(w12.setCell ⟨tb,3,none⟩ u).cell? ⟨cur,37,none⟩=some Z0:=fun u=>by
        rw[(hc12.far (p:=⟨tb,3,none⟩) n2 u).cell];simp[Yl,Z4,hrc]
      refine Ob rfl (Oa 340 (.tmp 73) (.tmp 77) (.tmp 78) rfl _ _ _ rfl rfl rfl hrun) ?_;replace hk12:=iD hk12;replace hT12:=iD hT12;replace hB12:=iD hB12;replace hc12:=iD hc12;replace hI12:=iD hI12;replace hN12':=iD hN12';replace hM12:=iD hM12;replace ht12':=iD ht12';clear hrun ht12 hM11 hN12 t1;go_wp2_with fail;refine (Zhk _ _ _).mono ?_;rintro e w13 ⟨rfl,rfl⟩;go_wp2_with fail;generalize hW14:lC (l5 w12 _ _) (lJ _ 330)=w14;have hb14:Below (w12.setCell ⟨tb,3,none⟩ (.int .i64 ((m:Int)+1))).heap.size (w12.setCell ⟨tb,3,none⟩ (.int .i64 ((m:Int)+1))) w14:=by rw[<-hW14];exact bL
      have hk14:∀ g t' cs,Blk w12 g t' cs->g ≠ tb->Blk w14 g t' cs:=fun g t' cs hB hne=>by
        rw[<-hW14];exact (hB.far (p:=⟨tb,3,none⟩) hne _).alloc _
      have hT14:Blk w14 tb 342 (Z0h nb mb ab ((m:Int)+1)):=by
        rw[<-hW14];exact (hT12.out.set_ 3 _).alloc _
      have hL14:Blk w14 w12.heap.size 330 [.pointer (some ⟨w10.heap.size,0,none⟩)]:=by
        rw[<-hW14];exact Blk.new_at (cs:=[.pointer (some ⟨w10.heap.size,0,none⟩)]) (by simp)
      have hM14:Z8 w14 mb (byE id nf m++[(Y8 nr,.pointer (some ⟨w10.heap.size,0,none⟩))]):=by
        rw[<-hW14];exact (hM12.out.block (lM _ _ _ _ (fun e=>hM12.out.ne_blk hT12.out e.symm))).alloc _
      have hA14:Z8 w14 ab [(.agg (id.map B).toArray,.int .i64 t.length)]:=by
        have hA12:Z8 w12 ab _:=(hst11.out.added.block (w':=w11.drewN nq2) rfl).touch ht12'.out (by simpa using fun e=>hmab e.symm);rw[<-hW14];exact (hA12.block (lM _ _ _ _ (fun e=>hA12.ne_blk hT12.out e.symm))).alloc _
      have hs14:w14.heap.size=w12.heap.size+1:=by rw[<-hW14];simp
      clear hW14 x1 x37 t3 f3;refine (Zhl ⟨w12.heap.size,0,none⟩ w10.heap.size w14 (hL14.cell 0)).mono ?_;rintro e w15 ⟨V,rfl,hV15,hb15⟩;obtain⟨eb,ecap,erest,rfl,heb,hE15⟩:=Ui hV15;clear hV15;have hc15:=(hk14 _ _ _ hc12.out n2).below hb15 (hk14 _ _ _ hc12.out n2).lt;have c37:w15.cell? ⟨cur,37,none⟩=some Z0:=by
        rw[hc15.cell];simp[Yl,Z4,hrc]
      have f37:=hc15.frozen 37;replace hc15:=iD hc15;replace hE15:=iD hE15;replace hA14:=iD hA14;replace hk14:=iD hk14;replace hT14:=iD hT14;replace hM14:=iD hM14;replace hL14:=iD hL14;replace hb15:=iD hb15;go_wp2_with fail;have hnlt:cur<w10.heap.size:=hcB.out.lt;have z14:=hb14.size;have z15:=hb15.out.size;have kk:∀ g t' cs,Blk w12 g t' cs->g ≠ tb->g ≠ cur->Blk (w15.setCell ⟨cur,37,none⟩ (.slice (some ⟨eb,0,none⟩) 1 ecap)) g t' cs:=fun g t' cs hB h1 h2 =>
        ((hk14.out _ _ _ hB h1).below hb15.out (hk14.out _ _ _ hB h1).lt).far (p:=⟨cur,37,none⟩) h2 _
      have setN:∀ (r:PRef) (b:UInt8) (g:Bool) (x y:Value),r.com.length=32->(Yl r b g Z0 x).set 37 y=Yl r b g Z0 y:=fun r b g x y hr=>by
        simp[Yl,Z4,hr]
      have kc:∀ r b g x,Blk w12 cur 332 (Yl r b g Z0 x)->r.com.length=32->Blk (w15.setCell ⟨cur,37,none⟩ (.slice (some ⟨eb,0,none⟩) 1 ecap)) cur 332 (Yl r b g Z0 (.slice (some ⟨eb,0,none⟩) 1 ecap)):=fun r b g x hB hr=>by
        have h1:=((hk14.out _ _ _ hB n2).below hb15.out (hk14.out _ _ _ hB n2).lt).set_ 37 (.slice (some ⟨eb,0,none⟩) 1 ecap);rw[setN r b g x _ hr] at h1;exact h1
      have same:∀ (g:Nat) (r r':PRef) (b b':UInt8) (q q':Bool) (x x':Value),Blk w12 g 332 (Yl r b q Z0 x)->Blk w12 g 332 (Yl r' b' q' Z0 x')->r.com.length=32->r'.com.length=32->r.n=r'.n:=fun g r r' b b' q q' x x' h1 h2 hr hr'=>by
        have e1:=h1.cell 33;have e2:=h2.cell 33;rw[e1] at e2;simp[Yl,Z4,hr,hr'] at e2;exact e2
      have hT16:Touch [tb,nb,mb,ab] w (w15.setCell ⟨cur,37,none⟩ (.slice (some ⟨eb,0,none⟩) 1 ecap)):=by
        have hA:=(hst11.out.touch.trans (Touch.drewN (L:=[]) nq2) (by simp)).trans ht12'.out (fun i hi=>.inl (by simp at hi;simp[hi]));have hB:=hA.trans (Touch.setCell (L:=[tb]) (g:=tb) (i:=3) (.int .i64 ((m:Int)+1)) (by simp)) (fun i hi=>.inl (by simp at hi;simp[hi]));have hC:=hB.under (hb14.mono hB.size);have hD:=hC.under (hb15.out.mono hC.size);refine hD.trans (Touch.setCell (L:=[cur]) (g:=cur) (i:=37) _ (by simp)) (fun i hi=>?_);obtain rfl:i=cur:=by simpa using hi
        rcases hcw.out with h1 | h1
        · exact .inl (by simp[h1])
        · exact .inr h1
      have hsw:=hst11.out.touch.size;refine⟨⟨m+1,fun i=>if i=m then w10.heap.size else nf i,fun i=>if i=m then .slice (some ⟨eb,0,none⟩) 1 ecap else if i=m+1 then Z0 else rf i,by omega,by go_num,⟨hT16,?_,?_,?_,?_,?_,?_,?_⟩,?_⟩,by simp[intOf];omega⟩
      · have:=(hT14.out.below hb15.out hT14.out.lt).far (p:=⟨cur,37,none⟩) (fun e=>n2 e.symm) (.slice (some ⟨eb,0,none⟩) 1 ecap)
        exact this
      · show (if m+1=m then _ else if m+1=m+1 then Z0 else rf (m+1))=Z0
        rw[if_neg (by omega),if_pos rfl]
      · have hr12:=hk12.out _ _ _ hst11.out.root
        by_cases hm0:m=0
        · have e:cur=nb:=by rw[hcur.out,if_pos hm0]
          have h1:=kc Zh 0 true (rf 0) (by rw[e];exact hr12) rfl;rw[e] at h1 ⊢;simp only[hm0,if_true];exact h1
        · have hne:nb ≠ cur:=fun e=>by
            have e2:cur=nf (m - 1):=by rw[hcur.out,if_neg hm0]
            obtain⟨h1,_⟩:=hst11.out.node (m - 1) t[m - 1] (by omega) (lK (by omega));have:=same nb _ _ _ _ _ _ _ _ hr12 (by rw[e,e2];exact hk12.out _ _ _ h1) rfl hid;simp[Zh] at this;omega
          have h1:=kk _ _ _ hr12 (hr12.ne_ hT12.out (by decide)) hne;simp only[show ¬ (0=m) by omega,show ¬ (0=m+1) by omega,if_false];exact h1
      · intro i c' hi hc'
        by_cases him:i=m
        · subst him
          have hcc:c'=c:=by
            have h1:=lK hlt;rw[h1] at hc';rw[hc.out];exact (lV hc').symm
          have h1:=kk _ _ _ (hk12.out _ _ _ hN11) ((hk12.out _ _ _ hN11).ne_ hT12.out (by decide)) (by omega);rw[hcc];simp only[if_true,show ¬ (i+1=i) by omega,if_false];rw[hnr.out] at h1;exact⟨h1,by have:=hst10.out.touch.size;omega⟩
        · obtain⟨h1,h2⟩:=hst11.out.node i c' (by omega) hc'
          have h1':=hk12.out _ _ _ h1;simp only[him,if_false,show ¬ (i+1=m+1) by omega];refine⟨?_,h2⟩;by_cases hi1:i+1=m
          · have e:cur=nf i:=by rw[hcur.out,if_neg (by omega)];congr 1;omega
            rw[if_pos hi1,<-e];exact kc _ _ _ _ (by rw[e];exact h1') hid
          · rw[if_neg hi1]
            refine kk _ _ _ h1' (h1'.ne_ hT12.out (by decide)) (fun e=>?_);have e2:cur=nf (m - 1):=by rw[hcur.out,if_neg (by omega)]
            obtain⟨h3,_⟩:=hst11.out.node (m - 1) t[m - 1] (by omega) (lK (by omega));have:=same (nf i) _ _ _ _ _ _ _ _ h1' (by rw[e,e2];exact hk12.out _ _ _ h3) hid hid;simp at this;omega
      · intro i hi
        have hE16:=hE15.out.far (p:=⟨cur,37,none⟩) (hE15.out.ne_ hc15.out (by decide)) (.slice (some ⟨eb,0,none⟩) 1 ecap);by_cases him:i=m
        · subst him
          refine⟨⟨eb,0,none⟩,ecap,_,by simp,?_,hE16,?_⟩
          · simp only[if_true]
            exact hE16.cell 0
          · show w.heap.size<=eb
            have:=hI12.out.lt;simp at z14;omega
        · obtain⟨a,cap,cs,h1,h2,h3,h4⟩:=hst11.out.link i (by omega)
          have h3':=hk12.out _ _ _ h3;have h16:=kk _ _ _ h3' (h3'.ne_ hT12.out (by decide)) (h3'.ne_ hc12.out (by decide));refine⟨a,cap,cs,?_,?_,h16,h4⟩
          · simp only[him,if_false,show ¬ (i=m+1) by omega]
            exact h1
          · simp only[him,if_false]
            have e1:a=⟨a.block,a.off,none⟩:=by
              have hsp:=l9 h2;obtain⟨a1,a2,a3⟩:=a;dsimp only at hsp;subst hsp;rfl
            rw[e1] at h2 ⊢;rw[h16.cell];rw[h3.cell] at h2;exact h2
      · have hM15:=hM14.out.block (hb15.out.block _ hM14.out.lt)
        have h1:=hM15.block (lM w15 ⟨cur,37,none⟩ (.slice (some ⟨eb,0,none⟩) 1 ecap) _ (fun e=>hM15.ne_blk hc15.out e.symm));have h2:byE id (fun i=>if i=m then w10.heap.size else nf i) (m+1)=byE id nf m++[(Y8 nr,.pointer (some ⟨w10.heap.size,0,none⟩))]:=by
          unfold byE;rw[List.range_succ,List.map_append]
          congr 1
          · refine List.map_congr_left (fun i hi=>?_)
            have:=nA.1 hi;simp only[show ¬ i=m by omega,if_false]
          · simp only[lS,lT,if_true]
            rw[hnr.out];rfl
        rw[h2];exact h1
      · have hA15:=hA14.out.block (hb15.out.block _ hA14.out.lt)
        exact hA15.block (lM w15 ⟨cur,37,none⟩ (.slice (some ⟨eb,0,none⟩) 1 ecap) _ (fun e=>hA15.ne_blk hc15.out e.symm))
      · exact kk _ _ _ hI12.out (hI12.out.ne_ hT12.out (by decide)) (hI12.out.ne_ hc12.out (by decide))
    · have hmt:m=t.length:=by omega
      subst hmt;go_wp2_with fail;go_returns;exact⟨rfl,nf,rf,hst⟩
end
section
set_option maxRecDepth 100000
set_option maxHeartbeats 8000000
open Go.Lib renaming hid → iD
open Go.Proofs.Tryz
open Go.RowKit
theorem Q4(a t:Str):(idT a t).length=32:=rfl
theorem Zho(a t:Str)(o lv:Value)(ok:Nat->Prop)(b:Nat)(w:World)(h:Zl w ok o (chain t))(ha:Z6 a=true)(ht:t.length<=1000)(hK:Zm w)(hM:Z8 w b []) :
    Calls lB 230 #[.agg #[Z0,.map (some b)],lv,.agg (Z5 a o).toArray] w fun e w'=>e=.returned (.tuple #[.agg ((idT a t).map B).toArray,.int .i64 0])/\Below w.heap.size w w':=by
  have hcl:(chain t).length=t.length:=Jq t 0;obtain⟨OA,oc,rfl,hoc,hor⟩:=h;have hO:Hid (Zl w ok (.slice OA (chain t).length oc) (chain t)):=iD ⟨OA,oc,rfl,hoc,hor⟩;rw[hcl] at hO ⊢;clear hor hoc;have hid:=iD (fun W (hb:Below w.heap.size w W)=>Z4l a t (.slice OA t.length oc) ok W (hO.out.stayB hb) ha ht (keys_below hK hb));obtain⟨ds,hds⟩:∃ ds,ds=idT a t:=⟨_,rfl⟩;have hdl:ds.length=32:=by rw[hds];rfl
  rw[<-hds] at hid ⊢;replace hds:=iD hds;unfold Z5 at hid ⊢;go_enter func230,ntmps230;go_wp2_with fail;generalize hW1:lC (lC (lC w _) _) (lJ _ 59)=w1;have hb1:Below w.heap.size w w1:=by rw[<-hW1];exact (bL.alloc (by simp) _).alloc (by simp;omega) _
  have hP:Blk w1 w.heap.size 235 [Z0,.map (some b)]:=by rw[<-hW1];exact ((Blk.new_at (cs:=[Z0,.map (some b)]) rfl).alloc _).alloc _
  have hC:Blk w1 (w.heap.size+1) 154 (Z5 a (.slice OA t.length oc)):=by rw[<-hW1];exact (Blk.new_at (cs:=Z5 a (.slice OA t.length oc)) (by simp)).alloc _
  have hR:Blk w1 (w.heap.size+2) 59 Z2:=by rw[<-hW1];exact Blk.new_at (cs:=Z2) (by simp)
  clear hW1;refine (hid.out _ hb1).mono ?_;rintro e w2 ⟨rfl,hb2⟩;have hP2:=hP.below hb2 hP.lt;have hC2:=hC.below hb2 hC.lt;have hR2:=hR.below hb2 hR.lt;have hM2:=hM.below (hb1.trans (hb2.mono hb1.size)) hM.lt;have hbw2:=hb1.trans (hb2.mono hb1.size);clear hb1 hb2 hP hC hR hid;replace hP2:=iD hP2;replace hC2:=iD hC2;replace hR2:=iD hR2;replace hM2:=iD hM2;replace hbw2:=iD hbw2;go_wp2_with (first
    | (refine Zd rfl 59 (.tmp 8) (.tmp 22) rfl w2.heap.size (ds.map B) rfl rfl 59 Z2 (Blk.new_at rfl) (by simp[hdl,Z2]) (Zg hdl) (Y5 _) ?_
       generalize hw1:lG _ w2.heap.size (ds.map B).toArray=w3;have hD3:Blk w3 w2.heap.size 59 (ds.map B):=by
         rw[<-hw1];exact (Blk.new_at (w:=w2) (t:=59) (cs:=Z2) rfl).setRow_same (ds.map B)
       have hb3:Below w2.heap.size w2 w3:=by
         rw[<-hw1];exact below_setRow ((lD w2.heap.size w2).alloc (lA _) (.cells Z2.toArray 59)) (lA _) (ds.map B).toArray
       clear hw1;have hP3:=hP2.out.below hb3 hP2.out.lt;have hC3:=hC2.out.below hb3 hC2.out.lt;have hR3:=iD (hR2.out.below hb3 hR2.out.lt);have hM3:=hM2.out.below hb3 hM2.out.lt;have hrun3:=hM3.look_none Ja underlying41 (z:=.int .i64 0) (by kernel_rfl) (by simp) (Xs ds hdl) (by simp) true;have p0:w3.cell? ⟨w.heap.size,0,none⟩=some Z0:=hP3.cell 0;have p1:w3.cell? ⟨w.heap.size,1,none⟩=some (.map (some b)):=hP3.cell 1;have q0:w3.cell? ⟨w.heap.size+1,0,none⟩=some Z0:=hC3.cell 0;have q3:w3.cell? ⟨w.heap.size+1,3,none⟩=some (.slice OA t.length oc):=hC3.cell 3;replace hrun3:=iD hrun3;replace hD3:=iD hD3;replace hb3:=iD hb3;replace hP3:=iD hP3;replace hC3:=iD hC3;go_frame)
    | (refine Zy rfl 59 (.tmp 8) rfl w2.heap.size rfl 59 (ds.map B) hD3.out _ underlying59 rfl (Zg hdl) ?_)
    | (refine J5 rfl (.tuple #[.int .i64 0,.bool false]) (Kb 41 (.tmp 30) (.tmp 31) true rfl _ _ _ rfl rfl hrun3.out) ?_;go_frame)
    | fail)
  refine lH 1 ?_;rw[lF];go_wp2_with fail;refine (Z8g b _).mono ?_;rintro e w4 ⟨sb,rfl,hb4⟩;have hC4:=hC3.out.below hb4 hC3.out.lt;have hD4:=iD (hD3.out.below hb4 hD3.out.lt);have hR4:=iD (hR3.out.below hb4 hR3.out.lt);have hb34:=iD (hbw2.out.trans ((hb3.out.mono hbw2.out.size).trans (hb4.mono (l7 hbw2.out.size hb3.out.size))));have q3':w4.cell? ⟨w.heap.size+1,3,none⟩=some (.slice OA t.length oc):=hC4.cell 3;have q34:∀ o,(w4.alloc o).cell? ⟨w.heap.size+1,3,none⟩=some (.slice OA t.length oc):=fun o=>(hC4.alloc o).cell 3;clear hb4 hrun3 p0 p1 q0 q3 hR3 hD3 hP3 hP2 hM2 hC2;go_wp2_with fail;generalize hW5:lC w4 _=w5;have hb5:Below w4.heap.size w4 w5:=by rw[<-hW5];exact bL
  have hD5:=hD4.out.below hb5 hD4.out.lt;have hR5:=hR4.out.below hb5 hR4.out.lt;have hb35:=iD (hb34.out.trans (hb5.mono hb34.out.size));clear hW5 q34 q3' hC4 hD4 hR4 hb34 hb5;replace hD5:=iD hD5;replace hR5:=iD hR5;have hws2:=hbw2.out.size;go_loopw [62] (fun i wr=>∃ m:Nat,m<=t.length/\i=.int .i64 m/\Below w5.heap.size w5 wr) (fun i _=>t.length - (intOf i).toNat)
  case atStart=>exact⟨0,lR _,rfl,lD _ _⟩
  case round =>
    obtain⟨m,hm,rfl,hbr⟩:=hrel;by_cases hlt:m<t.length
    · have hOr:=hO.out.stayB (hb35.out.trans (hbr.mono hb35.out.size))
      obtain⟨b',o,rfl,hbl,hcells⟩:=Z2d hOr (by omega) hlt;obtain⟨c,hc⟩:∃ c,c=t[m]:=⟨_,rfl⟩;rw[<-hc] at hcells;have hf:=Vq (k:=m) c (by omega);have i1:(0:Int)<=(m:Int):=by omega
      have i2:(m:Int)<(t.length:Int):=by omega
      replace hcells:=iD hcells;replace hc:=iD hc;replace hbr:=iD hbr;clear hOr hO;by_cases hm0:m=0
      · replace hm0:=iD hm0
        go_wp2_with (first
          | (refine lL rfl 278 (.tmp 64) rfl b' (o+m*37) rfl (Z9 (Zb m c)) _ (fun j v hv=>hcells.out j v hv) underlying278 rfl (Kx hf) ?_)
          | (refine Zd rfl 278 (.tmp 18) (.tmp 65) rfl wr.heap.size (Z9 (Zb m c)) rfl rfl 278 Yn (Blk.new_at rfl) (by rw[Jo hf];rfl) (Kx hf) (Kw _) ?_
             generalize hw1:lG _ wr.heap.size (Z9 (Zb m c)).toArray=w9;have hB9:Blk w9 wr.heap.size 278 (Z9 (Zb m c)):=by
               rw[<-hw1];exact (Blk.new_at (w:=wr) (t:=278) (cs:=Yn) rfl).setRow_same (Z9 (Zb m c))
             have hb9:Below wr.heap.size wr w9:=by
               rw[<-hw1];exact below_setRow ((lD wr.heap.size wr).alloc (lA _) (.cells Yn.toArray 278)) (lA _) (Z9 (Zb m c)).toArray
             clear hw1;have q2:w9.cell? ⟨wr.heap.size,2,none⟩=some (.bool false):=by rw[(Qy hB9 hf).2.2.1,hm0.out];rfl
             have q35:w9.cell? ⟨wr.heap.size,35,none⟩=some (.int .i64 0):=by rw[(Qy hB9 hf).2.2.2.1,hm0.out];rfl
             replace hB9:=iD hB9;replace hb9:=iD hb9;go_frame)
          | fail)
        refine⟨⟨m+1,by omega,by go_num,hbr.out.trans (hb9.out.mono hbr.out.size)⟩,by simp[intOf];omega⟩
      · go_wp2_with (first
          | (refine lL rfl 278 (.tmp 64) rfl b' (o+m*37) rfl (Z9 (Zb m c)) _ (fun j v hv=>hcells.out j v hv) underlying278 rfl (Kx hf) ?_)
          | (refine Zd rfl 278 (.tmp 18) (.tmp 65) rfl wr.heap.size (Z9 (Zb m c)) rfl rfl 278 Yn (Blk.new_at rfl) (by rw[Jo hf];rfl) (Kx hf) (Kw _) ?_
             generalize hw1:lG _ wr.heap.size (Z9 (Zb m c)).toArray=w9;have hB9:Blk w9 wr.heap.size 278 (Z9 (Zb m c)):=by
               rw[<-hw1];exact (Blk.new_at (w:=wr) (t:=278) (cs:=Yn) rfl).setRow_same (Z9 (Zb m c))
             have hb9:Below wr.heap.size wr w9:=by
               rw[<-hw1];exact below_setRow ((lD wr.heap.size wr).alloc (lA _) (.cells Yn.toArray 278)) (lA _) (Z9 (Zb m c)).toArray
             clear hw1;have q2:w9.cell? ⟨wr.heap.size,2,none⟩=some (.bool true):=by
               rw[(Qy hB9 hf).2.2.1];show some (l8 (Xd m).own)=_;rw[G3];simp[hm0]
             replace hB9:=iD hB9;replace hb9:=iD hb9;go_frame)
          | fail)
        refine⟨⟨m+1,by omega,by go_num,hbr.out.trans (hb9.out.mono hbr.out.size)⟩,by simp[intOf];omega⟩
    · have hmt:m=t.length:=by omega
      subst hmt;have hDr:=hD5.out.below hbr hD5.out.lt;have hRr:=hR5.out.below hbr hR5.out.lt;have hbr':=iD (hb35.out.trans (hbr.mono hb35.out.size));replace hDr:=iD hDr;replace hRr:=iD hRr;go_wp2_with (first
        | (refine Zy rfl 59 (.tmp 8) rfl w2.heap.size rfl 59 (ds.map B) hDr.out _ underlying59 rfl (Zg hdl) ?_)
        | (refine Zd rfl 59 (.tmp 6) (.tmp 86) rfl (w.heap.size+2) (ds.map B) rfl rfl 59 Z2 hRr.out (by simp[hdl,Z2]) (Zg hdl) (Y5 _) ?_)
        | fail)
      exact Kd rfl (w.heap.size+2) 59 (ds.map B) _ (.int .i64 0) rfl rfl (hRr.out.setRow_same _) underlying59 rfl (Zg hdl) rfl ⟨rfl,below_setRow hbr'.out (by omega) _⟩
end
section
set_option maxRecDepth 100000
set_option maxHeartbeats 8000000
open Go.Lib renaming hid → iD
open Go.Proofs.Tryz
open Go.RowKit
def Yd(id:Str)(p:Value):List Value:=id.map B++[p]
theorem Zhp(d:Str)(hd:d.length=32)(p:Value)(w:World)(hp:∃ A c,p=.slice A 0 c):(lN 165 #[(0,.agg (d.map B).toArray),(1,p)]).run lB w=.ok (.agg (Yd d p).toArray) w:=by
 obtain⟨A,c,rfl⟩:=hp
 iterate 32 (rcases d with _ | ⟨_,d⟩;· (exfalso;simp at hd;done))
 obtain rfl:d=[]:=by
  simp only[lO] at hd;exact lP.1 (by omega)
 kernel_rfl
theorem Zhq(d:Str)(hd:d.length=32)(p:Value)(w:World)(hp:∃ A c,p=.slice A 0 c):(Instr.buildSlice 141 1 #[(0,.agg (Yd d p).toArray)]).run lB w=.ok (.slice (some ⟨w.heap.size,0,none⟩) 1 1) (w.alloc (.cells (Yd d p).toArray 165)):=by
 obtain⟨A,c,rfl⟩:=hp
 iterate 32 (rcases d with _ | ⟨_,d⟩;· (exfalso;simp at hd;done))
 obtain rfl:d=[]:=by
  simp only[lO] at hd;exact lP.1 (by omega)
 kernel_rfl
def Qa:List Value:=Yd Yf Z0
theorem Zhr:InfoOf lB 165 (.agg Qa.toArray) 33 56:=⟨by kernel_rfl,rfl,by omega⟩
theorem Zhs:InfoOf lB 59 (.agg Z2.toArray) 32 32:=⟨by kernel_rfl,rfl,by omega⟩
theorem Z2e(d:Str)(A:Option Addr)(c:Nat):∀ v ∈ Yd d (.slice A 0 c),v.oneCell'=true:=by
 intro v hv;simp only[Yd,List.mem_append,lI,List.mem_cons,List.not_mem_nil,or_false] at hv;rcases hv with ⟨_,_,rfl⟩ | rfl <;> rfl
theorem Z4p(a t:Str)(o:Value)(ok:Nat->Prop)(lb lc:Nat)(rest:List Value)(w:World)(h:Zl w ok o (chain t))(ha:Z6 a=true)(ht:t.length<=1000)(hK:Zm w)(hL:Blk w lb 154 (Z5 a o++rest)) :
    Calls lB 160 #[.slice (some ⟨lb,0,none⟩) 1 lc] w fun e w'=>∃ qb nd cap pa pc rs,e=.returned (.tuple #[.agg #[.slice (some ⟨nd,0,none⟩) 1 cap,.map (some qb)],.int .i64 0,.int .i64 0]) /\
      Z8 w' qb [(.agg ((idT a t).map B).toArray,.int .i64 0)]/\Blk w' nd 165 (Yd (idT a t) (.slice pa 0 pc)++rs)/\w.heap.size<=qb/\w.heap.size<=nd/\Below w.heap.size w w':=by
  have hcl:(chain t).length=t.length:=Jq t 0;obtain⟨OA,oc,rfl,hoc,hor⟩:=h;have hO:Hid (Zl w ok (.slice OA (chain t).length oc) (chain t)):=iD ⟨OA,oc,rfl,hoc,hor⟩;rw[hcl] at hO hL;clear hor hoc;have hwr:=iD (fun W b (hb:Below w.heap.size w W) (hM:Z8 W b [])=>Zho a t (.slice OA t.length oc) (.slice (some ⟨lb,0,none⟩) 1 lc) ok b W (hO.out.stayB hb) ha ht (keys_below hK hb) hM);obtain⟨ds,hds⟩:∃ ds,ds=idT a t:=⟨_,rfl⟩;have hdl:ds.length=32:=by rw[hds];rfl
  rw[<-hds] at hwr ⊢;replace hds:=iD hds;unfold Z5 at hwr;have hmm:=@run_makeMap lB;go_enter func160,ntmps160;go_wp2_with fail;generalize hW1:lC (lC (lC w _) _) (lJ _ 235)=w1;have hb1:Below w.heap.size w w1:=by rw[<-hW1];exact (bL.alloc (by simp) _).alloc (by simp;omega) _
  have hR:Blk w1 w.heap.size 235 [Z0,.map none]:=by rw[<-hW1];exact ((Blk.new_at (cs:=[Z0,.map none]) rfl).alloc _).alloc _
  have hM:Z8 w1 (w.heap.size+1) []:=by rw[<-hW1];exact (Z8.new_at (by simp)).alloc _
  have hP:Blk w1 (w.heap.size+1+1) 235 [Z0,.map (some (w.heap.size+1))]:=by rw[<-hW1];exact Blk.new_at (cs:=[Z0,.map (some (w.heap.size+1))]) (by simp)
  clear hW1 hmm;have hL1:=hL.below hb1 hL.lt;have l0:w1.cell? ⟨lb,0,none⟩=some Z0:=hL1.cell 0;have l1:w1.cell? ⟨lb,1,none⟩=some (.string ⟨a.toArray⟩):=hL1.cell 1;have l2:w1.cell? ⟨lb,2,none⟩=some (.string ⟨#[]⟩):=hL1.cell 2;have l3:w1.cell? ⟨lb,3,none⟩=some (.slice OA t.length oc):=hL1.cell 3;have p0':∀ o,(w1.alloc o).cell? ⟨w.heap.size+1+1,0,none⟩=some Z0:=fun o=>(hP.alloc o).cell 0;have p1':∀ o,(w1.alloc o).cell? ⟨w.heap.size+1+1,1,none⟩=some (.map (some (w.heap.size+1))):=fun o=>(hP.alloc o).cell 1;have p0:w1.cell? ⟨w.heap.size+1+1,0,none⟩=some Z0:=hP.cell 0;have p1:w1.cell? ⟨w.heap.size+1+1,1,none⟩=some (.map (some (w.heap.size+1))):=hP.cell 1;refine lH 2 ?_;rw[lF];replace hR:=iD hR;replace hM:=iD hM;replace hP:=iD hP;replace hL1:=iD hL1;replace hb1:=iD hb1;go_wp2_with fail;generalize hW2:lC w1 (lJ _ 154)=w2;have hb2:Below w1.heap.size w1 w2:=by rw[<-hW2];exact bL
  have hX2:Blk w2 w1.heap.size 154 (Z5 a (.slice OA t.length oc)):=by rw[<-hW2];exact Blk.new_at (cs:=Z5 a (.slice OA t.length oc)) rfl
  have hb2':=hb1.out.trans (hb2.mono hb1.out.size);have hM2:=hM.out.below hb2 hM.out.lt;have hP2:=hP.out.below hb2 hP.out.lt;have hR2:=hR.out.below hb2 hR.out.lt;clear hW2 l0 l1 l2 l3 p0 p1 p0' p1' hL1 hL;refine (hwr.out w2 _ hb2' hM2).mono ?_;rintro e w3 ⟨rfl,hb3⟩;have hb3':=iD (hb2'.trans (hb3.mono hb2'.size));have hM3:=iD (hM2.below hb3 hM2.lt);have hP3:=iD (hP2.below hb3 hP2.lt);have hR3:=iD (hR2.below hb3 hR2.lt);have hX3:=iD (hX2.below hb3 hX2.lt);clear hM2 hP2 hR2 hX2 hb2 hb2' hb3 hwr hM hP hR;go_wp2_with (first
    | (refine Zd rfl 59 (.tmp 8) (.tmp 28) rfl w3.heap.size (ds.map B) rfl rfl 59 Z2 (Blk.new_at rfl) (by simp[hdl,Z2]) (Zg hdl) (Y5 _) ?_
       generalize hw1:lG _ w3.heap.size (ds.map B).toArray=w4;have hD4:Blk w4 w3.heap.size 59 (ds.map B):=by
         rw[<-hw1];exact (Blk.new_at (w:=w3) (t:=59) (cs:=Z2) rfl).setRow_same (ds.map B)
       have hb4:Below w3.heap.size w3 w4:=by
         rw[<-hw1];exact below_setRow ((lD w3.heap.size w3).alloc (lA _) (.cells Z2.toArray 59)) (lA _) (ds.map B).toArray
       clear hw1;have hM4:=hM3.out.below hb4 hM3.out.lt;have hP4:=hP3.out.below hb4 hP3.out.lt;have hR4:=hR3.out.below hb4 hR3.out.lt;have hX4:=hX3.out.below hb4 hX3.out.lt;have hb4':=iD (hb3'.out.trans (hb4.mono hb3'.out.size));obtain⟨w5,hrun,hM5,ht5⟩:=hM4.store Ja underlying41 (by simp) (Xs ds hdl) (by simp) (.int .i64 0);have p1:w4.cell? ⟨w.heap.size+1+1,1,none⟩=some (.map (some (w.heap.size+1))):=hP4.cell 1;have hk5:∀ g t' cs,Blk w4 g t' cs->Blk w5 g t' cs:=fun g t' cs hB=>hB.touch (Kz ht5) (by simpa using hM4.ne_blk hB);have hP5:=hk5 _ _ _ hP4;have hR5:=iD (hk5 _ _ _ hR4);have hX5:=hk5 _ _ _ hX4;have hD5:=hk5 _ _ _ hD4;have hws:=hb4'.out.size;have hb5:=iD (hb4'.out.trans ((Kz ht5).below hws (fun i hi=>by simp at hi;omega)));have s5:w4.heap.size<=w5.heap.size:=(Kz ht5).size;replace hrun:=iD hrun;replace hM5:=iD hM5;replace hD4:=iD hD4;clear hM4 hP4 hR4 hX4 hb4 ht5 hk5;replace hP5:=iD hP5;replace hX5:=iD hX5;replace hD5:=iD hD5;go_frame)
    | (refine Zy rfl 59 (.tmp 8) rfl w3.heap.size rfl 59 (ds.map B) hD4.out _ underlying59 rfl (Zg hdl) ?_)
    | (refine Ob rfl (Oa 41 (.tmp 36) (.tmp 37) (.tmp 38) rfl _ _ _ rfl rfl rfl hrun.out) ?_;go_frame)
    | fail)
  clear p1 hrun hD4 hM3 hP3 hR3 hX3;obtain⟨PS,hPS⟩:∃ PS:World->Prop,∀ x,PS x ↔ Blk x (w.heap.size+1+1) 235 [Z0,.map (some (w.heap.size+1))]/\Blk x w1.heap.size 154 (Z5 a (.slice OA t.length oc))/\Blk x w3.heap.size 59 (ds.map B):=⟨_,fun _=>Iff.rfl⟩;have s1:∀ s:Cls PS,s.1.cell? ⟨w.heap.size+1+1,0,none⟩=some Z0:=fun s=>((hPS _).1 s.2).1.cell 0;have s2:∀ s:Cls PS,s.1.cell? ⟨w1.heap.size,0,none⟩=some Z0:=fun s=>((hPS _).1 s.2).2.1.cell 0;have s3:Hid (∀ w',(∃ s:Cls PS,w'=s.1)->Blk w' w3.heap.size 59 (ds.map B)):=iD (by rintro _ ⟨s,rfl⟩;exact ((hPS _).1 s.2).2.2);have s4:PS w5.drew:=(hPS _).2 ⟨hP5.out.drew,hX5.out.drew,hD5.out.drew⟩;haveI : Nonempty (Cls PS):=⟨⟨_,s4⟩⟩;replace hPS:=iD hPS;refine Yh (fun w'=>∃ s:Cls PS,w'=s.1) [([0,1,2,3,4],5),([6],7)] [] 8 [9,10] (by kernel_rfl) (by kernel_rfl) (fun _ d _ _ _ h=>by cases d <;> exact h) ⟨⟨_,s4⟩,rfl⟩ ?_;simp only[Y4,Z7,lS,lT,Zo,Zn];repeat (first | go_big_quiet_step (fail) | (refine Yq 59 (.tmp 8) rfl rfl w3.heap.size 0 rfl 59 (ds.map B) (ds.map B) [] s3.out (by simp) _ underlying59 rfl (Zg hdl) ?_;go_frame))
  refine lE ?_;intro K hK;have hws5:=hb5.out.size;refine Vs _ rfl (.const Z0) (.tmp 43) 22 rfl w5.heap.size 59 (.agg Z2.toArray) 32 32 underlying22 Zhs Z0 0 [] rfl ⟨rfl,.inl ⟨rfl,rfl⟩⟩ (fun _=>True) none 0 0 [] rfl rfl Rd.nil (by simp) (by unfold maxLen;omega) (by omega) (by simp) ?_;intro v6 w6 hrow6 hg6 hv6;obtain⟨pa,pc,rfl,_,_⟩:=Za hrow6;have hb6:Below w5.heap.size w5 w6:=(lD _ _).drew.trans (Yo (v:=Z0) (n:=0) (xs:=[]) (e:=59) (size:=32) ⟨rfl,.inl ⟨rfl,rfl⟩⟩ hg6 (by simp));have hP6:=hP5.out.below hb6 hP5.out.lt;have hX6:=hX5.out.below hb6 hX5.out.lt;have hD6:=hD5.out.below hb6 hD5.out.lt;have hM6:=hM5.out.below hb6 hM5.out.lt;have hR6:=hR5.out.below hb6 hR5.out.lt;have hbw6:=hb5.out.trans (hb6.mono hws5);refine hK _ _ ⟨⟨_,(hPS.out _).2 ⟨hP6,hX6,hD6⟩⟩,rfl⟩ ?_;clear hK;go_frame;refine Zc (.build 165 #[(0,.tmp 41),(1,.tmp 44)]) rfl rfl (.agg (Yd ds (.slice pa 0 pc)).toArray) (fun w' _=>exec_build2 165 0 1 (.tmp 41) (.tmp 44) rfl (.agg (ds.map B).toArray) (.slice pa 0 pc) _ rfl rfl (Zhp ds hdl _ w' ⟨_,_,rfl⟩)) ?_;go_frame;refine lE ?_;intro K hK;refine J0 _ _ rfl _ (Jy 141 (.tmp 45) rfl _ _ rfl (Zhq ds hdl (.slice pa 0 pc) _ ⟨_,_,rfl⟩)) ?_;generalize hW7:lC w6 _=w7;have hN7:Blk w7 w6.heap.size 165 (Yd ds (.slice pa 0 pc)):=by rw[<-hW7];exact Blk.new_at (cs:=Yd ds (.slice pa 0 pc)) rfl
  have hb7:Below w6.heap.size w6 w7:=by rw[<-hW7];exact bL
  have hP7:=hP6.below hb7 hP6.lt;have hX7:=hX6.below hb7 hX6.lt;have hD7:=hD6.below hb7 hD6.lt;have hM7:=iD (hM6.below hb7 hM6.lt);have hR7:=iD (hR6.below hb7 hR6.lt);have hbw7:=iD (hbw6.trans (hb7.mono hbw6.size));refine hK _ _ ⟨⟨_,(hPS.out _).2 ⟨hP7,hX7,hD7⟩⟩,rfl⟩ ?_;clear hK hW7 hM6 hR6 hb6 hb7 hbw6 hP6 hX6 hD6 hX7 hD7;go_frame;refine lE ?_;have hws7:=hbw7.out.size;replace hN7:=iD hN7;replace hP7:=iD hP7;go_wp2_with (at_builtin;refine Yt _ rfl (.tmp 40) (.tmp 46) 141 rfl w7.heap.size 165 (.agg Qa.toArray) 33 56 underlying141 Zhr Z0 0 [] rfl ⟨rfl,.inl ⟨rfl,rfl⟩⟩ (fun _=>True) (some ⟨w6.heap.size,0,none⟩) 1 1 (Yd ds (.slice pa 0 pc)) rfl (by simp[Yd,hdl]) (Rd.of_blk (cs:=Yd ds (.slice pa 0 pc)) (r:=[]) hN7.out (by simp) trivial) (Z2e _ _ _) (by unfold maxLen;omega) (by omega) (lA _) ?_;intro v8 w8 hrow8 hg8 hv8;obtain⟨nd,cap,rs,rfl,hnd,hN8⟩:=Ui hrow8;have hb8:Below w7.heap.size w7 w8:=Yo (v:=Z0) (n:=0) (xs:=[]) (e:=165) (size:=33) ⟨rfl,.inl ⟨rfl,rfl⟩⟩ hg8 (lA _);have hP8:=hP7.out.below hb8 hP7.out.lt;have c0:w8.cell? ⟨w.heap.size+1+1,0,none⟩=some Z0:=hP8.cell 0;have f0:=hP8.frozen 0;have hM8:=iD (hM7.out.below hb8 hM7.out.lt);have hR8:=iD (hR7.out.below hb8 hR7.out.lt);have hbw8:=iD (hbw7.out.trans (hb8.mono hws7));replace hP8:=iD hP8;replace hN8:=iD hN8;clear hrow8 hg8 hv8;go_frame);rw[lF];have hP9:=hP8.out.set_ 0 (.slice (some ⟨nd,0,none⟩) 1 cap);have hne:w.heap.size ≠ w.heap.size+1+1:=by omega
  have hR9:=hR8.out.far (p:=⟨w.heap.size+1+1,0,none⟩) hne (.slice (some ⟨nd,0,none⟩) 1 cap);have hM9:=hM8.out.block (lM w8 ⟨w.heap.size+1+1,0,none⟩ (.slice (some ⟨nd,0,none⟩) 1 cap) _ (by show w.heap.size+1 ≠ w.heap.size+1+1;omega));have hN9:=hN8.out.far (p:=⟨w.heap.size+1+1,0,none⟩) (hN8.out.ne_ hP8.out (by decide)) (.slice (some ⟨nd,0,none⟩) 1 cap);have hb9:Below w.heap.size w (w8.setCell ⟨w.heap.size+1+1,0,none⟩ (.slice (some ⟨nd,0,none⟩) 1 cap)):=hbw8.out.setCell (by show w.heap.size<=w.heap.size+1+1;omega) _;generalize l5 w8 _ _=w9 at hP9 hR9 hM9 hN9 hb9 ⊢;have p0:w9.cell? ⟨w.heap.size+1+1,0,none⟩=some (.slice (some ⟨nd,0,none⟩) 1 cap):=hP9.cell 0;have p1:w9.cell? ⟨w.heap.size+1+1,1,none⟩=some (.map (some (w.heap.size+1))):=hP9.cell 1;have hnd':w.heap.size<=nd:=by omega
  replace hP9:=iD hP9;replace hR9:=iD hR9;replace hM9:=iD hM9;replace hN9:=iD hN9;replace hb9:=iD hb9;go_wp2_with (first | (refine Zd rfl 235 (.tmp 2) (.tmp 50) rfl w.heap.size [.slice (some ⟨nd,0,none⟩) 1 cap,.map (some (w.heap.size+1))] rfl rfl 235 [Z0,.map none] hR9.out rfl (by kernel_rfl) (by simp[lW]) ?_) | fail);refine Z1r rfl w.heap.size 235 [.slice (some ⟨nd,0,none⟩) 1 cap,.map (some (w.heap.size+1))] _ rfl (hR9.out.setRow_same _) underlying235 rfl (by kernel_rfl) rfl _ _ rfl rfl ⟨w.heap.size+1,nd,cap,pa,pc,rs,rfl,?_,?_,by omega,hnd',below_setRow hb9.out (lA _) _⟩
  · exact hM9.out.block (setRow_other _ _ _ _ (by omega))
  · exact hN9.out.setRow_far (hN9.out.ne_ hR9.out (by decide)) _
end
section
set_option maxRecDepth 100000
set_option maxHeartbeats 8000000
open Go.Lib renaming hid → iD
open Go.Proofs.Tryz
open Go.RowKit
theorem Zht(ds:Str)(hdl:ds.length=32)(nd cap qb ib ic:Nat)(pa:Option Addr)(pc:Nat)(rs ri:List Value)(w:World)(hN:Blk w nd 165 (Yd ds (.slice pa 0 pc)++rs))(hM:Z8 w qb [(.agg (ds.map B).toArray,.int .i64 0)])(hI:Blk w ib 59 (ds.map B++ri)) :
    Calls lB 166 #[.agg #[.slice (some ⟨nd,0,none⟩) 1 cap,.map (some qb)],.slice (some ⟨ib,0,none⟩) 1 ic] w fun e w'=>∃ sb,e=.returned (.agg #[.slice (some ⟨nd,0,none⟩) 1 cap,.map (some qb),.slice (some ⟨sb,0,none⟩) 1 1])/\Blk w' sb 4 [.bool true]/\w.heap.size<=sb/\Below w.heap.size w w':=by
  have hmk:=O7;go_enter func166,ntmps166;go_wp2_with fail;generalize hW1:lC (lC w _) (lJ _ 253)=w1;have hb1:Below w.heap.size w w1:=by rw[<-hW1];exact bL.alloc (by simp) _
  have hP:Blk w1 w.heap.size 235 [.slice (some ⟨nd,0,none⟩) 1 cap,.map (some qb)]:=by rw[<-hW1];exact (Blk.new_at (cs:=[.slice (some ⟨nd,0,none⟩) 1 cap,.map (some qb)]) rfl).alloc _
  have hR:Blk w1 (w.heap.size+1) 253 [Z0,.map none,Z0]:=by rw[<-hW1];exact Blk.new_at (cs:=[Z0,.map none,Z0]) (by simp)
  clear hW1;have p0:w1.cell? ⟨w.heap.size,0,none⟩=some (.slice (some ⟨nd,0,none⟩) 1 cap):=hP.cell 0;have p1:w1.cell? ⟨w.heap.size,1,none⟩=some (.map (some qb)):=hP.cell 1;have a0:∀ o,(w1.alloc o).cell? ⟨w.heap.size,0,none⟩=some (.slice (some ⟨nd,0,none⟩) 1 cap):=fun o=>(hP.alloc o).cell 0;have a1:∀ o,(w1.alloc o).cell? ⟨w.heap.size,1,none⟩=some (.map (some qb)):=fun o=>(hP.alloc o).cell 1;have b0:∀ o,(w1.drew.alloc o).cell? ⟨w.heap.size,0,none⟩=some (.slice (some ⟨nd,0,none⟩) 1 cap):=fun o=>(hP.drew.alloc o).cell 0;have b1:∀ o,(w1.drew.alloc o).cell? ⟨w.heap.size,1,none⟩=some (.map (some qb)):=fun o=>(hP.drew.alloc o).cell 1;have d0:∀ o o',((w1.alloc o).alloc o').cell? ⟨w.heap.size,0,none⟩=some (.slice (some ⟨nd,0,none⟩) 1 cap):=fun o o'=>((hP.alloc o).alloc o').cell 0;have d1:∀ o o',((w1.alloc o).alloc o').cell? ⟨w.heap.size,1,none⟩=some (.map (some qb)):=fun o o'=>((hP.alloc o).alloc o').cell 1;have hN1:=iD (hN.below hb1 hN.lt);have hM1:=iD (hM.below hb1 hM.lt);have hI1:=iD (hI.below hb1 hI.lt);clear hN hM hI;have hs1:w.heap.size<=w1.heap.size:=hb1.size;replace hP:=iD hP;replace hR:=iD hR;replace hb1:=iD hb1;go_upto_region 1 with fail;go_cut [5] (fun v wx=>∃ vb sb,v=.pointer (some ⟨vb,0,none⟩)/\Blk wx vb 253 [.slice (some ⟨nd,0,none⟩) 1 cap,.map (some qb),.slice (some ⟨sb,0,none⟩) 1 1]/\Blk wx sb 4 [.bool false]/\w1.heap.size<=vb/\w1.heap.size<=sb/\Below w1.heap.size w1 wx)
  case first =>
    go_region;all_goals (go_wp2_with fail;go_meet;first
      | exact⟨w1.heap.size,w1.heap.size+1,rfl,(((Blk.new_at (cs:=[.slice (some ⟨nd,0,none⟩) 1 cap,.map (some qb),.slice (some ⟨w1.heap.size+1,0,none⟩) 1 1]) rfl).alloc _)).drew,(Blk.new_at (cs:=[.bool false]) (by simp)).drew,lA _,by omega,by go_grown⟩
      | exact⟨w1.heap.size+1,w1.heap.size,rfl,(Blk.new_at (cs:=[.slice (some ⟨nd,0,none⟩) 1 cap,.map (some qb),.slice (some ⟨w1.heap.size,0,none⟩) 1 1]) (by simp)).drew,((Blk.new_at (cs:=[.bool false]) rfl).alloc _).drew,by omega,lA _,by go_grown⟩
      | exact⟨w1.heap.size,w1.heap.size+1,rfl,(Blk.new_at (cs:=[.slice (some ⟨nd,0,none⟩) 1 cap,.map (some qb),.slice (some ⟨w1.heap.size+1,0,none⟩) 1 1]) rfl).alloc _,Blk.new_at (cs:=[.bool false]) (by simp),lA _,by omega,by go_grown⟩)
  case rest =>
    obtain⟨vb,sb,rfl,hV2,hS2,hvb,hsb,hb2⟩:=hcut;clear a0 a1 b0 b1 d0 d1 p0 p1 hmk;have hP2:=hP.out.below hb2 hP.out.lt;have hI2:=hI1.out.below hb2 hI1.out.lt;have hN2:=iD (hN1.out.below hb2 hN1.out.lt);have hM2:=iD (hM1.out.below hb2 hM1.out.lt);have hR2:=iD (hR.out.below hb2 hR.out.lt);have hb2':=iD (hb1.out.trans (hb2.mono hs1));replace hV2:=iD hV2;replace hS2:=iD hS2;replace hP2:=iD hP2;replace hI2:=iD hI2;clear hN1 hM1 hI1 hR hP hb1 hb2;go_wp2_with fail;refine lH 2 ?_;rw[lF];go_wp2_with (first
      | (refine Xj rfl 59 (.tmp 21) rfl ib 0 rfl 59 (ds.map B++ri) (ds.map B) ri hI2.out (by simp) _ underlying59 rfl (Zg hdl) ?_)
      | (refine Zd rfl 59 (.tmp 7) (.tmp 22) rfl wc.heap.size (ds.map B) rfl rfl 59 Z2 (Blk.new_at rfl) (by simp[hdl,Z2]) (Zg hdl) (Y5 _) ?_
         generalize hw1:lG _ wc.heap.size (ds.map B).toArray=w4;have hD4:Blk w4 wc.heap.size 59 (ds.map B):=by
           rw[<-hw1];exact (Blk.new_at (w:=wc) (t:=59) (cs:=Z2) rfl).setRow_same (ds.map B)
         have hb4:Below wc.heap.size wc w4:=by
           rw[<-hw1];exact below_setRow ((lD wc.heap.size wc).alloc (lA _) (.cells Z2.toArray 59)) (lA _) (ds.map B).toArray
         clear hw1;go_frame)
      | fail)
    have hV4:=hV2.out.below hb4 hV2.out.lt;have hS4:=iD (hS2.out.below hb4 hS2.out.lt);have hP4:=hP2.out.below hb4 hP2.out.lt;have hM4:=hM2.out.below hb4 hM2.out.lt;have hN4:=iD (hN2.out.below hb4 hN2.out.lt);have hR4:=iD (hR2.out.below hb4 hR2.out.lt);have hb4':=iD (hb2'.out.trans (hb4.mono hb2'.out.size));have v2:w4.cell? ⟨vb,2,none⟩=some (.slice (some ⟨sb,0,none⟩) 1 1):=hV4.cell 2;have p1:w4.cell? ⟨w.heap.size,1,none⟩=some (.map (some qb)):=hP4.cell 1;have hD5:Hid (∀ w',(∃ n,w'=w4.drewN n)->Blk w' wc.heap.size 59 (ds.map B)):=iD (by rintro _ ⟨n,rfl⟩;exact hD4.drewN n);have hrun:Hid (∀ w',(∃ n,w'=w4.drewN n)->(lU 41 (.map (some qb)) (.agg (ds.map B).toArray) false).run lB w'=.ok (.int .i64 0) w'):=iD (by
      rintro _ ⟨n,rfl⟩;have hM5:Z8 (w4.drewN n) qb _:=hM4.block rfl;exact hM5.look_some Ja underlying41 (by simpa using Xs ds hdl) (Xs ds hdl) (List.mem_singleton.2 rfl) (by simp) false)
    replace hV4:=iD hV4;replace hP4:=iD hP4;clear hV2 hS2 hP2 hM2 hN2 hR2 hb2' hb4 hD4 hI2;refine Y7 6 (by kernel_rfl) (by kernel_rfl) ?_;simp only[lX,lY,lZ,l4];repeat (first
      | go_big_quiet_step (fail)
      | (refine Yq 59 (.tmp 7) rfl rfl wc.heap.size 0 rfl 59 (ds.map B) (ds.map B) [] hD5.out (by simp) _ underlying59 rfl (Zg hdl) ?_;go_frame)
      | (refine Zc (.lookup 41 (.tmp 26) (.tmp 27) false) rfl rfl (.int .i64 0) (fun w' hw'=>Kb 41 (.tmp 26) (.tmp 27) false rfl _ _ _ rfl rfl (hrun.out w' hw')) ?_;go_frame))
    refine lE ?_;rintro _ ⟨nq,rfl⟩;have hS5:=hS4.out.drewN nq;have s0:(w4.drewN nq).cell? ⟨sb,0,none⟩=some (.bool false):=hS5.cell 0;have sf:=hS5.frozen 0;have i0:(0:Int)<((1:Nat):Int):=by omega
    go_wp2_with fail;rw[lF];have hws4:=hb4'.out.size;have hsw:w.heap.size<=sb:=by omega
    have hV6:=(hV4.out.drewN nq).far (p:=⟨sb,0,none⟩) ((hV4.out.drewN nq).ne_ hS5 (by decide)) (.bool true);have hP6:=(hP4.out.drewN nq).far (p:=⟨sb,0,none⟩) ((hP4.out.drewN nq).ne_ hS5 (by decide)) (.bool true);have hN6:=(hN4.out.drewN nq).far (p:=⟨sb,0,none⟩) ((hN4.out.drewN nq).ne_ hS5 (by decide)) (.bool true);have hR6:=(hR4.out.drewN nq).far (p:=⟨sb,0,none⟩) ((hR4.out.drewN nq).ne_ hS5 (by decide)) (.bool true);have hS6:=hS5.set_ 0 (.bool true);have hb6:Below w.heap.size w ((w4.drewN nq).setCell ⟨sb,0,none⟩ (.bool true)):=(hb4'.out.trans ((Touch.drewN (L:=[]) nq).below hws4 (fun _ hi=>by cases hi))).setCell (by show w.heap.size<=sb;exact hsw) _;generalize l5 (w4.drewN nq) _ _=w6 at hV6 hP6 hN6 hR6 hS6 hb6 ⊢;have e0:w6.cell? ⟨vb,0,none⟩=some (.slice (some ⟨nd,0,none⟩) 1 cap):=hV6.cell 0;have e1:w6.cell? ⟨vb,1,none⟩=some (.map (some qb)):=hV6.cell 1;have e2:w6.cell? ⟨vb,2,none⟩=some (.slice (some ⟨sb,0,none⟩) 1 1):=hV6.cell 2;have q0:w6.cell? ⟨w.heap.size,0,none⟩=some (.slice (some ⟨nd,0,none⟩) 1 cap):=hP6.cell 0;have n32:w6.cell? ⟨nd,32,none⟩=some (.slice pa 0 pc):=by
      rw[hN6.cell];simp[Yd,hdl]
    replace hR6:=iD hR6;replace hS6:=iD hS6;replace hb6:=iD hb6;clear hV6 hP6 hN6 hrun hD5 v2 p1 s0 sf hS5;go_wp2_with fail;refine lH 2 ?_;rw[lF];go_wp2_with fail;refine lH 1 ?_;rw[lF];go_wp2_with fail;rw[lF];go_wp2_with (first | (refine Zd rfl 253 (.tmp 4) (.tmp 63) rfl (w.heap.size+1) [.slice (some ⟨nd,0,none⟩) 1 cap,.map (some qb),.slice (some ⟨sb,0,none⟩) 1 1] rfl rfl 253 [Z0,.map none,Z0] hR6.out rfl (by kernel_rfl) (by simp[lW]) ?_) | fail);exact Qe rfl (w.heap.size+1) 253 [.slice (some ⟨nd,0,none⟩) 1 cap,.map (some qb),.slice (some ⟨sb,0,none⟩) 1 1] _ rfl (hR6.out.setRow_same _) underlying253 rfl (by kernel_rfl) rfl ⟨sb,rfl,hS6.out.setRow_far (hS6.out.ne_ hR6.out (by decide)) _,hsw,below_setRow hb6.out (by omega) _⟩
end
end Go.Proofs.YtefjlobdifjogaaGreatDoor
