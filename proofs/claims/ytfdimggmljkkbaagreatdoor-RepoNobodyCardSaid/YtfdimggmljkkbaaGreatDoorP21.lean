import Derived.Test.YtfdimggmljkkbaaGreatDoorP18
import Derived.Test.YtfdimggmljkkbaaGreatDoorP20
open Bool renaming and_eq_true → lW
open Go renaming wpQuiet_nil → lD, wpList_load_mid → lR, wp_region_quiet_lit → l3
open Go.BinOp renaming or → lK
open Go.Instr renaming lookup → nM
open Go.IntKind renaming i64 → lL
open Go.IntWalk renaming i64_in → l4
open Go.Obj renaming cells → l7
open Go.Proofs.Tryz renaming prog → lI
open Go.RowKit.Below renaming refl → lB
open Go.Value renaming oneCell' → nK
open Go.World renaming setRow → lS, alloc → lY
open Iff renaming rfl → lP
open List renaming length_append → lA, append_assoc → lF, getElem?_eq_getElem → lG, getElem_mem → lH, getElem?_eq_some_iff → lJ, map_cons → lM, map_nil → lN, mem_map → lO, map_append → lT, mem_range → lU, length_nil → lV, length_map → lX, mem_cons → lZ, not_mem_nil → l0, length_cons → l5, getElem?_append_left → l6, length_singleton → l8, length_take → l9, map_congr_left → nA, getElem?_append_right → nC, append_nil → nD, take_succ_cons → nE, take_zero → nF, drop_succ_cons → nG, drop_zero → nH, take_succ_eq_append_getElem → nI, take_length → nJ, getElem_of_mem → nL
open Nat renaming le_trans → lC, le_refl → lE, zero_le → lQ
open Option.some renaming inj → nB
namespace Go.Proofs.YtfdimggmljkkbaaGreatDoor
section
set_option maxRecDepth 100000
set_option maxHeartbeats 4000000
open Go.Lib renaming hid → iD
open Go.Proofs.Tryz
open Go.RowKit
theorem Zbb(l:List POp)(v:Value)(ok:Nat->Prop)(k:Nat)(w:World)(h:Xu w ok v l)(hf:OsFit l)(hk:k<l.length)(he:Oa l ((k:Int)+1)=0) :
    Calls lI 169 #[v,.int .i64 ((k:Int)+1)] w fun e w'=>e=.returned (.int .i64 0)/\Below w.heap.size w w':=by
  obtain⟨x,hx⟩:∃ x,l[k]=x:=⟨_,rfl⟩;have hxk:l[k]?=some x:=by rw[<-hx];exact lG hk
  obtain⟨href,hkd,hown⟩:=Ut he hxk;have hH:=iD h;have hxf:OpFit x:=by rw[<-hx];exact hf.ok _ (lH hk)
  have hlen:l.length<=1759218604441:=hf.len;obtain⟨A,c,rfl,hc,hr⟩:=h;obtain⟨b,o,rfl,hob,hlt,hcell⟩:=hH.out.op hf.ok k hk;rw[hx] at hcell;have hsx:=iD (Qh hxf);have hsr:=iD (Xe hxf.com);replace hcell:=iD hcell;replace hx:=iD hx;replace hf:=iD hf;replace hxf:=iD hxf;replace hown:=iD hown;replace hkd:=iD hkd;clear hr hc he hxk;have e1:lL.wrap ((k:Int)+1 - 1)=(k:Int):=by rw[show (k:Int)+1 - 1=k by omega];exact l4 _ (by omega)
  have g1:decide ((k:Int)+1<1)=false:=decide_eq_false (by omega);have g2:decide ((l.length:Int)<(k:Int)+1)=false:=decide_eq_false (by omega);have i1:(0:Int)<=(k:Int):=by omega
  have i2:(k:Int)<(l.length:Int):=by omega
  go_enter func169,ntmps169;go_wp2_with (first
    | (refine lR rfl 178 (.tmp 17) rfl b (o+k*37) rfl (Z9 x) _ (fun j v hv=>hcell.out j v hv) underlying178 rfl hsx.out ?_)
    | (refine Zo rfl 178 (.tmp 5) (.tmp 18) rfl w.heap.size (Z9 x) rfl rfl 178 Jt (Blk.new_at rfl) (by rw[Ug hxf.out];rfl) hsx.out (Uj x) ?_
       generalize hw1:lS _ w.heap.size (Z9 x).toArray=w1;have hB:Blk w1 w.heap.size 178 (Z9 x):=by
         rw[<-hw1];exact (Blk.new_at (w:=w) (t:=178) (cs:=Jt) rfl).setRow_same (Z9 x)
       have hb:Below w.heap.size w w1:=by
         rw[<-hw1];exact below_setRow ((lB w.heap.size w).alloc (lE _) (.cells Jt.toArray 178)) (lE _) (Z9 x).toArray
       clear hw1;replace hB:=iD hB;replace hb:=iD hb;go_frame)
    | (refine K3 rfl 158 (.tmp 19) rfl w.heap.size 2 rfl 178 (Z9 x) (Z1 x.at_) [B x.byte] hB.out rfl _ underlying158 rfl hsr.out ?_)
    | fail)
  refine (Zg0 x.at_ hxf.out.com hxf.out.n0 hxf.out.n1 w1).mono ?_;rintro e W ⟨rfl,hbW⟩;have hB':Blk W w.heap.size 178 (Z9 x):=hB.out.below hbW hB.out.lt;have hb':=hb.out.trans (hbW.mono hb.out.size);obtain⟨c0,c1,c2,c35,c36⟩:=Jj hB' hxf.out;clear c2 c35;replace hB':=iD hB';replace hb':=iD hb';clear hbW hB hb;rw[href];have hroot:=iD (fun W'=>Z4z x.at_ hxf.out.com W');have fin:Hid (∀ W',Below W.heap.size W W'->Below w.heap.size w W'/\W'.cell? ⟨w.heap.size,2,none⟩=some (.bool x.at_.own)/\(x.at_.own=true->∃ m:Nat,m<k/\W'.cell? ⟨w.heap.size,35,none⟩=some (.int .i64 ((m:Int)+1))/\W'.cell? ⟨b,o+m*37,none⟩=some (.int .i64 1))):=iD (by
    intro W' hbb;have hB2:=hB'.out.below hbb hB'.out.lt;have hb2:=hb'.out.trans (hbb.mono hb'.out.size);obtain⟨_,_,d2,d35,_⟩:=Jj hB2 hxf.out;refine⟨hb2,d2,fun ho=>?_⟩;obtain⟨m,y,hn,hm,hy,hyk⟩:=Z3o hown.out href ho;obtain⟨hml,hye⟩:=lJ.1 hy;rw[hn] at d35;obtain⟨b',o',hA,_,_,hc'⟩:=hH.out.op hf.out.ok m hml;cases hA
    refine⟨m,hm,d35,?_⟩;rw[hb2.cell (p:=⟨b,o+m*37,none⟩) hlt];have:=hc' 0 (.int .i64 l[m].kind) rfl;rw[hye,hyk] at this;simpa using this)
  rcases Z0i hkd.out with ⟨hk1,hl1⟩ | ⟨hk2,hl2,hb2,hr2⟩
  · rw[hk1] at c0
    cases hl:x.left with
    | false =>
      rw[hl] at c1;clear c36;obtain⟨f1,f2,f3⟩:=fin.out _ (lB _ _);replace f1:=iD f1;cases ho:x.at_.own with
      | false =>
        rw[ho] at f2;clear f3;go_wp2_with fail;go_ret;exact⟨rfl,f1.out⟩
      | true =>
        rw[ho] at f2;obtain⟨m,hm,d35,ck⟩:=f3 ho;have j1:(0:Int)<=(m:Int):=by omega
        have j2:(m:Int)<(l.length:Int):=by omega
        have j3:decide ((k:Int)<=(m:Int))=false:=decide_eq_false (by omega);go_wp2_with fail;go_ret;exact⟨rfl,f1.out⟩
    | true =>
      rw[hl] at c1;have hr:=hl1 hl;clear c36;go_wp2_with (first | (refine Z52 rfl 158 (.tmp 30) rfl w.heap.size 2 rfl 178 (Z9 x) (Z1 x.at_) [B x.byte] hB'.out rfl _ underlying158 rfl hsr.out ?_) | fail);refine (hroot.out _).mono ?_;rintro e W2 ⟨rfl,hbW2⟩;rw[hr];clear c0 c1;obtain⟨f1,f2,f3⟩:=fin.out _ hbW2;replace f1:=iD f1;cases ho:x.at_.own with
      | false =>
        rw[ho] at f2;clear f3;go_wp2_with fail;go_ret;exact⟨rfl,f1.out⟩
      | true =>
        rw[ho] at f2;obtain⟨m,hm,d35,ck⟩:=f3 ho;have j1:(0:Int)<=(m:Int):=by omega
        have j2:(m:Int)<(l.length:Int):=by omega
        have j3:decide ((k:Int)<=(m:Int))=false:=decide_eq_false (by omega);go_wp2_with fail;go_ret;exact⟨rfl,f1.out⟩
  · rw[hk2] at c0
    rw[hl2] at c1;rw[hb2] at c36;have c36':W.cell? ⟨w.heap.size,36,none⟩=some (.int .u8 0):=c36;clear c36;go_wp2_with (first | (refine Z52 rfl 158 (.tmp 44) rfl w.heap.size 2 rfl 178 (Z9 x) (Z1 x.at_) [B x.byte] hB'.out rfl _ underlying158 rfl hsr.out ?_) | fail);refine (hroot.out _).mono ?_;rintro e W2 ⟨rfl,hbW2⟩;rw[hr2];clear c0 c1 c36';obtain⟨f1,f2,f3⟩:=fin.out _ hbW2;replace f1:=iD f1;cases ho:x.at_.own with
    | false =>
      rw[ho] at f2;clear f3;go_wp2_with fail;go_ret;exact⟨rfl,f1.out⟩
    | true =>
      rw[ho] at f2;obtain⟨m,hm,d35,ck⟩:=f3 ho;have j1:(0:Int)<=(m:Int):=by omega
      have j2:(m:Int)<(l.length:Int):=by omega
      have j3:decide ((k:Int)<=(m:Int))=false:=decide_eq_false (by omega);go_wp2_with fail;go_ret;exact⟨rfl,f1.out⟩
end
section
set_option maxRecDepth 100000
set_option maxHeartbeats 16000000
open Go.Lib renaming hid → iD
open Go.Proofs.Tryz
open Go.RowKit
theorem Gl{n:Nat}(h:n<=2000):(Zp n).length<=10:=by
 have:=Z01 9 n (by (have : (128:Nat) ^ 9=9223372036854775808:=by decide);omega);exact this
theorem Z6h{x:POp}(_h:OpFit x)(j:Nat)(u:Value)(hj:(x.at_.com.map B)[j]?=some u):(Z9 x)[3+j]?=some u:=by
 have e:Z9 x=[.int .i64 x.kind,.bool x.left,.bool x.at_.own]++(x.at_.com.map B++[.int .i64 x.at_.n,B x.byte]):=by simp[Z9,Z1]
 rw[e,nC (by simp)];simp only[l5,lV,Nat.zero_add,Nat.add_sub_cancel_left];rw[l6 (lJ.1 hj).1];exact hj
theorem Zla(x:POp)(hf:OpFit x)(hro:Ji x.at_=true)(hkd:Ka x=0)(hn:x.at_.n<=2000)(v:Value)(xs:Str)(base:Nat)(w:World)(ho:w.ownsRow base 5 1 v xs.length (xs.map B))(hbase:base<=w.heap.size)(hx:xs.length<=1000000) :
  Calls lI 102 #[v,.agg (Z9 x).toArray] w (Z9x w base (xs++opS x)):=by
 obtain⟨FA,fc,rfl,_,_⟩:=Z6 ho;generalize hW1e:(w.alloc (.cells (Z9 x).toArray 178))=w1;have hX:Blk w1 w.heap.size 178 (Z9 x):=by rw[<-hW1e];exact Blk.new_at (cs:=Z9 x) rfl
 have hb1:Below w.heap.size w w1:=by rw[<-hW1e];exact bL
 have hr1:w1.ownsRow base 5 1 (.slice FA xs.length fc) xs.length (xs.map B):=by rw[<-hW1e];exact ho.alloc _
 have hs1:base<=w1.heap.size:=lC hbase hb1.size;obtain⟨c0,c1,c2,c35,c36⟩:=Jj hX hf;have b01:bits lK lL 0 1=1:=by decide
 have b02:bits lK lL 0 2=2:=by decide
 have b04:bits lK lL 0 4=4:=by decide
 have b14:bits lK lL 1 4=5:=by decide
 have b24:bits lK lL 2 4=6:=by decide
 have b08:bits lK lL 0 8=8:=by decide
 have b18:bits lK lL 1 8=9:=by decide
 have b28:bits lK lL 2 8=10:=by decide
 have hsr:=iD (Xe hf.com);have hroot:=iD (fun W'=>Z4z x.at_ hf.com W');have hn0:0<=x.at_.n:=by
  unfold Ji at hro;cases ho':x.at_.own with
  | true =>
   rw[if_pos ho',lW,decide_eq_true_eq] at hro;omega
  | false =>
   rw[if_neg (by rw[ho'];decide)] at hro;by_cases hr:x.at_.root=true
   ·rw[Z6b.1 hr];decide
   ·rw[if_neg hr,lW,decide_eq_true_eq] at hro;omega
 obtain⟨q,hq⟩:∃ q:Nat,x.at_.n=(q:Int):=⟨x.at_.n.toNat,by omega⟩;have hql:q<=2000:=by omega
 have hqn:x.at_.n.toNat=q:=by omega
 have hpq:=Gl hql;rw[hq] at c35;have hk1':Hid (Y3 w w1):=iD (Y3.below hb1);have hb1':Hid (Below base w w1):=iD (hb1.mono hbase);obtain⟨by_,hby⟩:∃ by_,by_=x.byte:=⟨_,rfl⟩;rw[<-hby] at c36;clear hb1 ho;replace hf:=iD hf;replace hq:=iD hq;replace hqn:=iD hqn;replace hby:=iD hby
 replace hn0:=iD hn0;clear hro;rcases Z0i hkd with ⟨hk,hlr⟩ | ⟨hk,hl,_,hrt⟩
 ·rw[hk] at c0;cases hl:x.left with
  | false =>
   rw[hl] at c1;cases hw:x.at_.own with
   | true =>
    rw[hw] at c2;go_enter func102,ntmps102;go_wp2_with fail;obtain⟨PS,hPS⟩:∃ PS:World->Prop,∀ z,PS z ↔ z.cell? ⟨w.heap.size,35,none⟩=some (.int .i64 (q:Int)):=⟨_,fun _=>lP⟩;have s1:∀ s:Cls PS,s.1.cell? ⟨w.heap.size,35,none⟩=some (.int .i64 (q:Int)):=fun s=>(hPS _).1 s.2;have s4:PS w1.drew:=(hPS _).2 c35;haveI : Nonempty (Cls PS):=⟨⟨_,s4⟩⟩;replace hPS:=iD hPS;refine Z14 (fun w'=>∃ s:Cls PS,w'=s.1) [0,1,2,4,5,6] [3] 7 [8] (by kernel_rfl) (by kernel_rfl) (fun _ d _ _ _ h=>by cases d <;> exact h) ⟨⟨_,s4⟩,rfl⟩ ?_;simp only[Zj,lM,lN,Yw,Ys];repeat (first | go_big_quiet_step (fail))
    refine lD ?_;intro K hK;go_simp;refine (Kl 4 _ xs base _ (by omega) hr1.drew (by simpa using hs1) (by omega)).mono ?_;rintro e w3 ⟨V,rfl,hr3,hb3,hk3⟩;have hX3:=hk3 _ _ _ hX.drew (by decide);have p35:=(Jj hX3 hf.out).2.2.2.1;rw[hq.out] at p35;refine hK _ _ ⟨⟨_,(hPS.out _).2 p35⟩,rfl⟩ ?_
    change wpList _ _ _ _ _ _
    obtain⟨ys,hys⟩:∃ ys,ys=xs++Zp 4:=⟨_,rfl⟩;obtain⟨GA,gc,rfl,_,_⟩:=Z6 hr3;rw[<-hys] at hr3 ⊢;have hl3:ys.length<=1000020:=by
     have : (Zp 4).length=1:=by rw[Vy (by omega)];rfl
     rw[hys];simp only[lA,this];omega
    have hsz3:base<=w3.heap.size:=lC (by simpa using hs1) hb3.size;have hb3':=iD ((hb1'.out.trans (lB base w1).drew).trans hb3);have hk3':=iD ((hk1'.out.trans (Y3.below (lB _ _).drew)).trans hk3);replace hys:=iD hys;replace hr3:=iD hr3;replace hX3:=iD hX3;clear hb3 hk3;go_wp2_with fail;refine (Kl q _ ys base _ (by omega) hr3.out hsz3 (by omega)).mono ?_;rintro e w4 ⟨V,rfl,hr4,hb4,hk4⟩;have hX4:=iD (hk4 _ _ _ hX3.out (by decide));have hsz4:base<=w4.heap.size:=lC hsz3 hb4.size;have hb4':=iD (hb3'.out.trans hb4);have hk4':=iD (hk3'.out.trans hk4);obtain⟨zs,hzs⟩:∃ zs,zs=ys++Zp q:=⟨_,rfl⟩;rw[<-hzs] at hr4;have hzl:zs.length<=1000040:=by rw[hzs,lA];omega
    replace hzs:Hid (zs=xs++atS x):=iD (by
     rw[hzs,hys.out];unfold atS;rw[if_pos hw,hqn.out,show opN x=0 by unfold opN;rw[hk,hl];rfl,lF])
    replace hr4:=iD hr4;clear hb4 hk4 hr3 hX3;obtain⟨GC,gcc,rfl,_,_⟩:=Z6 hr4.out;obtain⟨p0,_,_,_,p36⟩:=Jj hX4.out hf.out;rw[hk] at p0;rw[<-hby.out] at p36;clear c0 c1 c2 c35 c36;replace p0:w4.cell? ⟨w.heap.size,0,none⟩=some (.int .i64 1):=p0;go_wp2_with (at_builtin;refine X0 _ rfl (.tmp 49) (.tmp 52) 99 rfl base 5 (B 0) 1 1 underlying99 Kc (.slice GC zs.length gcc) zs.length (zs.map B) rfl (hr4.out.alloc _) (fun _=>True) (some ⟨w4.heap.size,0,none⟩) 1 1 [B by_] rfl rfl (Rd.of_blk (cs:=[B by_]) (r:=[]) (Blk.new_at rfl) rfl trivial) (Z1h by_) (by unfold maxLen;omega) (by omega) (by simp;omega) ?_;intro v4 W4 hrow4 hg4 hv4;replace hrow4:=iD hrow4;replace hg4:=iD hg4;clear hv4;obtain⟨VA,vc,rfl,_,_⟩:=Z6 hrow4.out;go_frame);go_ret;refine⟨_,rfl,?_,hb4'.out.trans ((bL |>.mono hsz4).trans (Yd (hr4.out.alloc _) hg4.out (by simp;omega))),hk4'.out.trans ((Y3.below bL).trans (Y3.grown (hr4.out.alloc _) hg4.out))⟩;have h1:=hrow4.out;have h2:xs++opS x=zs++[by_]:=by
     rw[hzs.out,hby.out];unfold opS;rw[if_pos hk,lF]
    rw[h2];simpa using h1
   | false =>
    rw[hw] at c2;cases hrr:x.at_.root with
    | true =>
     go_enter func102,ntmps102;go_wp2_with (first
      | (refine K3 rfl 158 (.tmp 40) rfl w.heap.size 2 rfl 178 (Z9 x) (Z1 x.at_) [B x.byte] hX rfl _ underlying158 rfl hsr.out ?_)
      | fail)
     refine (hroot.out _).mono ?_;rintro e w2 ⟨rfl,hb2⟩;rw[hrr];have hX2:=iD (hX.below hb2 hX.lt);have hr2:=iD (Zk hr1 (Touch.ofBelow (L:=[]) hb2) (fun _ _ hm=>by cases hm));have hb2':=iD (hb1'.out.trans (hb2.mono hs1));have hk2:=iD (hk1'.out.trans (Y3.below hb2));have hsz2:base<=w2.heap.size:=lC hs1 hb2.size;clear hb2 hX hr1;go_wp2_with fail;refine (Kl 0 _ xs base _ (by omega) hr2.out hsz2 (by omega)).mono ?_;rintro e w4 ⟨V,rfl,hr4,hb4,hk4⟩;have hX4:=iD (hk4 _ _ _ hX2.out (by decide));have hsz4:base<=w4.heap.size:=lC hsz2 hb4.size;have hb4':=iD (hb2'.out.trans hb4);have hk4':=iD (hk2.out.trans hk4);obtain⟨zs,hzs⟩:∃ zs,zs=xs++Zp 0:=⟨_,rfl⟩;rw[<-hzs] at hr4;have hzl:zs.length<=1000040:=by
      have : (Zp 0).length=1:=by rw[Vy (by omega)];rfl
      rw[hzs,lA];omega
     replace hzs:Hid (zs=xs++atS x):=iD (by
      rw[hzs];unfold atS;rw[if_neg (by rw[hw];decide),if_pos hrr,show opN x=0 by unfold opN;rw[hk,hl];rfl])
     replace hr4:=iD hr4;clear hb4 hk4;obtain⟨GC,gcc,rfl,_,_⟩:=Z6 hr4.out;obtain⟨p0,_,_,_,p36⟩:=Jj hX4.out hf.out;rw[hk] at p0;rw[<-hby.out] at p36;clear c0 c1 c2 c35 c36;replace p0:w4.cell? ⟨w.heap.size,0,none⟩=some (.int .i64 1):=p0;go_wp2_with (at_builtin;refine X0 _ rfl (.tmp 49) (.tmp 52) 99 rfl base 5 (B 0) 1 1 underlying99 Kc (.slice GC zs.length gcc) zs.length (zs.map B) rfl (hr4.out.alloc _) (fun _=>True) (some ⟨w4.heap.size,0,none⟩) 1 1 [B by_] rfl rfl (Rd.of_blk (cs:=[B by_]) (r:=[]) (Blk.new_at rfl) rfl trivial) (Z1h by_) (by unfold maxLen;omega) (by omega) (by simp;omega) ?_;intro v4 W4 hrow4 hg4 hv4;replace hrow4:=iD hrow4;replace hg4:=iD hg4;clear hv4;obtain⟨VA,vc,rfl,_,_⟩:=Z6 hrow4.out;go_frame);go_ret;refine⟨_,rfl,?_,hb4'.out.trans ((bL |>.mono hsz4).trans (Yd (hr4.out.alloc _) hg4.out (by simp;omega))),hk4'.out.trans ((Y3.below bL).trans (Y3.grown (hr4.out.alloc _) hg4.out))⟩;have h1:=hrow4.out;have h2:xs++opS x=zs++[by_]:=by
      rw[hzs.out,hby.out];unfold opS;rw[if_pos hk,lF]
     rw[h2];simpa using h1
    | false =>
     go_enter func102,ntmps102;go_wp2_with (first
      | (refine K3 rfl 158 (.tmp 40) rfl w.heap.size 2 rfl 178 (Z9 x) (Z1 x.at_) [B x.byte] hX rfl _ underlying158 rfl hsr.out ?_)
      | fail)
     refine (hroot.out _).mono ?_;rintro e w2 ⟨rfl,hb2⟩;rw[hrr];have hX2:=hX.below hb2 hX.lt;have hr2:=Zk hr1 (Touch.ofBelow (L:=[]) hb2) (fun _ _ hm=>by cases hm);have hb2':=iD (hb1'.out.trans (hb2.mono hs1));have hk2:=iD (hk1'.out.trans (Y3.below hb2));have hsz2:base<=w2.heap.size:=lC hs1 hb2.size;clear hb2 hX hr1 c35 c36 c2 c0 c1;go_upto_region 6 with fail;obtain⟨PS,hPS⟩:∃ PS:World->Prop,∀ z,PS z ↔ z.cell? ⟨w.heap.size,35,none⟩=some (.int .i64 (q:Int)):=⟨_,fun _=>lP⟩;have s1:∀ s:Cls PS,s.1.cell? ⟨w.heap.size,35,none⟩=some (.int .i64 (q:Int)):=fun s=>(hPS _).1 s.2;have hcq:∀ W,Blk W w.heap.size 178 (Z9 x)->W.cell? ⟨w.heap.size,35,none⟩=some (.int .i64 (q:Int)):=fun W hW=>by
      have:=(Jj hW hf.out).2.2.2.1;rw[hq.out] at this;exact this
     have s4:PS w2.drew:=(hPS _).2 (hcq _ hX2.drew);haveI : Nonempty (Cls PS):=⟨⟨_,s4⟩⟩;replace hPS:=iD hPS;replace hcq:=iD hcq;refine Ur (fun w'=>∃ s:Cls PS,w'=s.1) (.one [0,1,2,4,5,6,8,9,10] 3 (.one [] 7 (.tail []))) 11 [12] (by kernel_rfl) (by kernel_rfl) (fun _ d _ _ _ h=>by cases d <;> exact h) ⟨⟨_,s4⟩,rfl⟩ ?_;simp only[Kz,Qj,Zj,lM,lN,Yw,Ys];repeat (first | go_big_quiet_step (fail))
     refine lD ?_;intro K hK;go_simp;refine (Kl 8 _ xs base _ (by omega) hr2.drew (by simpa using hsz2) (by omega)).mono ?_;rintro e w3 ⟨V,rfl,hr3,hb3,hk3⟩;have hX3:=hk3 _ _ _ hX2.drew (by decide);refine hK _ _ ⟨⟨_,(hPS.out _).2 (hcq.out _ hX3)⟩,rfl⟩ ?_;clear hK;refine lD ?_;intro K hK;obtain⟨ys,hys⟩:∃ ys,ys=xs++Zp 8:=⟨_,rfl⟩;obtain⟨GA,gc,rfl,_,_⟩:=Z6 hr3;rw[<-hys] at hr3 ⊢;have hl3:ys.length<=1000020:=by
      have : (Zp 8).length=1:=by rw[Vy (by omega)];rfl
      rw[hys];simp only[lA,this];omega
     have hsz3:base<=w3.heap.size:=lC (by simpa using hsz2) hb3.size;have hb3':=hb2'.out.trans ((lB base w2).drew.trans hb3);have hk3':=hk2.out.trans ((Y3.below (lB _ _).drew).trans hk3);have hrd:Rd w3 (fun _=>True) (some ⟨w.heap.size,3,none⟩) (x.at_.com.map B):=fun _=>⟨_,rfl,trivial,fun j u hj=>by
      have:=hX3.cell (3+j);rw[Z6h hf.out j u hj] at this;simpa[Xj] using this⟩
     have hcl:(x.at_.com.map B).length=32:=by rw[lX];exact hf.out.com
     refine V5 _ rfl (.tmp 18) (.tmp 21) 99 rfl base 5 (B 0) 1 1 underlying99 Kc (.slice GA ys.length gc) ys.length (ys.map B) rfl hr3 (fun _=>True) (some ⟨w.heap.size,3,none⟩) 32 32 (x.at_.com.map B) rfl hcl hrd (by intro u hu;obtain⟨a,_,rfl⟩:=lO.1 hu;rfl) (by unfold maxLen;omega) (by omega) hsz3 ?_;intro v5 w5 hrow5 hg5 hv5;obtain⟨us,hus⟩:∃ us,us=ys++x.at_.com:=⟨_,rfl⟩;have hul:us.length=ys.length+32:=by rw[hus,lA,hf.out.com]
     have hrow5':w5.ownsRow base 5 1 v5 us.length (us.map B):=by
      rw[hul,hus,lT];exact hrow5
     have hk5:=hk3'.trans (Y3.grown hr3 hg5);have hX5:Blk w5 w.heap.size 178 (Z9 x):=Y3.grown hr3 hg5 _ _ _ hX3 (by decide);have hb5:=hb3'.trans (Yd hr3 hg5 hsz3);have hsz5:base<=w5.heap.size:=lC hsz3 hg5.size;obtain⟨HA,hc,rfl,_,_⟩:=Z6 hrow5';refine hK _ _ ⟨⟨_,(hPS.out _).2 (hcq.out _ hX5)⟩,rfl⟩ ?_;clear hK hrow5 hg5 hv5 hr3 hb3 hk3 hX3 hrd hk3' hb3';refine lD ?_
     change wpList _ _ _ _ _ _
     replace hrow5':=iD hrow5';replace hk5:=iD hk5;replace hX5:=iD hX5;replace hb5:=iD hb5;replace hys:=iD hys;replace hus:=iD hus;replace hul:=iD hul;go_wp2_with fail;refine (Kl q _ us base _ (by omega) hrow5'.out hsz5 (by have:=hul.out;omega)).mono ?_;rintro e w4 ⟨V,rfl,hr4,hb4,hk4⟩;have hX4:=iD (hk4 _ _ _ hX5.out (by decide));have hsz4:base<=w4.heap.size:=lC hsz5 hb4.size;have hb4':=iD (hb5.out.trans hb4);have hk4':=iD (hk5.out.trans hk4);obtain⟨zs,hzs⟩:∃ zs,zs=us++Zp q:=⟨_,rfl⟩;rw[<-hzs] at hr4;have hzl:zs.length<=1000090:=by
      have:=hul.out;rw[hzs,lA];omega
     replace hzs:Hid (zs=xs++atS x):=iD (by
      rw[hzs,hus.out,hys.out];unfold atS;rw[if_neg (by rw[hw];decide),if_neg (by rw[hrr];decide),hqn.out,show opN x=0 by unfold opN;rw[hk,hl];rfl];simp only[lF])
     replace hr4:=iD hr4;clear hb4 hk4;obtain⟨GC,gcc,rfl,_,_⟩:=Z6 hr4.out;obtain⟨p0,_,_,_,p36⟩:=Jj hX4.out hf.out;rw[hk] at p0;rw[<-hby.out] at p36;replace p0:w4.cell? ⟨w.heap.size,0,none⟩=some (.int .i64 1):=p0;go_wp2_with (at_builtin;refine X0 _ rfl (.tmp 49) (.tmp 52) 99 rfl base 5 (B 0) 1 1 underlying99 Kc (.slice GC zs.length gcc) zs.length (zs.map B) rfl (hr4.out.alloc _) (fun _=>True) (some ⟨w4.heap.size,0,none⟩) 1 1 [B by_] rfl rfl (Rd.of_blk (cs:=[B by_]) (r:=[]) (Blk.new_at rfl) rfl trivial) (Z1h by_) (by unfold maxLen;omega) (by omega) (by simp;omega) ?_;intro v4 W4 hrow4 hg4 hv4;replace hrow4:=iD hrow4;replace hg4:=iD hg4;clear hv4;obtain⟨VA,vc,rfl,_,_⟩:=Z6 hrow4.out;go_frame);go_ret;refine⟨_,rfl,?_,hb4'.out.trans ((bL |>.mono hsz4).trans (Yd (hr4.out.alloc _) hg4.out (by simp;omega))),hk4'.out.trans ((Y3.below bL).trans (Y3.grown (hr4.out.alloc _) hg4.out))⟩;have h1:=hrow4.out;have h2:xs++opS x=zs++[by_]:=by
      rw[hzs.out,hby.out];unfold opS;rw[if_pos hk,lF]
     rw[h2];simpa using h1
  | true =>
   rw[hl] at c1;have hrt:=hlr hl;cases hw:x.at_.own with
   | true =>
    rw[hw] at c2;go_enter func102,ntmps102;go_wp2_with fail;obtain⟨PS,hPS⟩:∃ PS:World->Prop,∀ z,PS z ↔ z.cell? ⟨w.heap.size,35,none⟩=some (.int .i64 (q:Int)):=⟨_,fun _=>lP⟩;have s1:∀ s:Cls PS,s.1.cell? ⟨w.heap.size,35,none⟩=some (.int .i64 (q:Int)):=fun s=>(hPS _).1 s.2;have s4:PS w1.drew:=(hPS _).2 c35;haveI : Nonempty (Cls PS):=⟨⟨_,s4⟩⟩;replace hPS:=iD hPS;refine Z14 (fun w'=>∃ s:Cls PS,w'=s.1) [0,1,2,4,5,6] [3] 7 [8] (by kernel_rfl) (by kernel_rfl) (fun _ d _ _ _ h=>by cases d <;> exact h) ⟨⟨_,s4⟩,rfl⟩ ?_;simp only[Zj,lM,lN,Yw,Ys];repeat (first | go_big_quiet_step (fail))
    refine lD ?_;intro K hK;go_simp;refine (Kl 6 _ xs base _ (by omega) hr1.drew (by simpa using hs1) (by omega)).mono ?_;rintro e w3 ⟨V,rfl,hr3,hb3,hk3⟩;have hX3:=hk3 _ _ _ hX.drew (by decide);have p35:=(Jj hX3 hf.out).2.2.2.1;rw[hq.out] at p35;refine hK _ _ ⟨⟨_,(hPS.out _).2 p35⟩,rfl⟩ ?_
    change wpList _ _ _ _ _ _
    obtain⟨ys,hys⟩:∃ ys,ys=xs++Zp 6:=⟨_,rfl⟩;obtain⟨GA,gc,rfl,_,_⟩:=Z6 hr3;rw[<-hys] at hr3 ⊢;have hl3:ys.length<=1000020:=by
     have : (Zp 6).length=1:=by rw[Vy (by omega)];rfl
     rw[hys];simp only[lA,this];omega
    have hsz3:base<=w3.heap.size:=lC (by simpa using hs1) hb3.size;have hb3':=iD ((hb1'.out.trans (lB base w1).drew).trans hb3);have hk3':=iD ((hk1'.out.trans (Y3.below (lB _ _).drew)).trans hk3);replace hys:=iD hys;replace hr3:=iD hr3;replace hX3:=iD hX3;clear hb3 hk3;go_wp2_with fail;refine (Kl q _ ys base _ (by omega) hr3.out hsz3 (by omega)).mono ?_;rintro e w4 ⟨V,rfl,hr4,hb4,hk4⟩;have hX4:=iD (hk4 _ _ _ hX3.out (by decide));have hsz4:base<=w4.heap.size:=lC hsz3 hb4.size;have hb4':=iD (hb3'.out.trans hb4);have hk4':=iD (hk3'.out.trans hk4);obtain⟨zs,hzs⟩:∃ zs,zs=ys++Zp q:=⟨_,rfl⟩;rw[<-hzs] at hr4;have hzl:zs.length<=1000040:=by rw[hzs,lA];omega
    replace hzs:Hid (zs=xs++atS x):=iD (by
     rw[hzs,hys.out];unfold atS;rw[if_pos hw,hqn.out,show opN x=2 by unfold opN;rw[hk,hl];rfl,lF])
    replace hr4:=iD hr4;clear hb4 hk4 hr3 hX3;obtain⟨GC,gcc,rfl,_,_⟩:=Z6 hr4.out;obtain⟨p0,_,_,_,p36⟩:=Jj hX4.out hf.out;rw[hk] at p0;rw[<-hby.out] at p36;clear c0 c1 c2 c35 c36;replace p0:w4.cell? ⟨w.heap.size,0,none⟩=some (.int .i64 1):=p0;go_wp2_with (at_builtin;refine X0 _ rfl (.tmp 49) (.tmp 52) 99 rfl base 5 (B 0) 1 1 underlying99 Kc (.slice GC zs.length gcc) zs.length (zs.map B) rfl (hr4.out.alloc _) (fun _=>True) (some ⟨w4.heap.size,0,none⟩) 1 1 [B by_] rfl rfl (Rd.of_blk (cs:=[B by_]) (r:=[]) (Blk.new_at rfl) rfl trivial) (Z1h by_) (by unfold maxLen;omega) (by omega) (by simp;omega) ?_;intro v4 W4 hrow4 hg4 hv4;replace hrow4:=iD hrow4;replace hg4:=iD hg4;clear hv4;obtain⟨VA,vc,rfl,_,_⟩:=Z6 hrow4.out;go_frame);go_ret;refine⟨_,rfl,?_,hb4'.out.trans ((bL |>.mono hsz4).trans (Yd (hr4.out.alloc _) hg4.out (by simp;omega))),hk4'.out.trans ((Y3.below bL).trans (Y3.grown (hr4.out.alloc _) hg4.out))⟩;have h1:=hrow4.out;have h2:xs++opS x=zs++[by_]:=by
     rw[hzs.out,hby.out];unfold opS;rw[if_pos hk,lF]
    rw[h2];simpa using h1
   | false =>
    rw[hw] at c2;have hrr:=hrt;go_enter func102,ntmps102;go_wp2_with (first
     | (refine K3 rfl 158 (.tmp 40) rfl w.heap.size 2 rfl 178 (Z9 x) (Z1 x.at_) [B x.byte] hX rfl _ underlying158 rfl hsr.out ?_)
     | fail)
    refine (hroot.out _).mono ?_;rintro e w2 ⟨rfl,hb2⟩;rw[hrr];have hX2:=hX.below hb2 hX.lt;have hr2:=Zk hr1 (Touch.ofBelow (L:=[]) hb2) (fun _ _ hm=>by cases hm);have hb2':=iD (hb1'.out.trans (hb2.mono hs1));have hk2:=iD (hk1'.out.trans (Y3.below hb2));have hsz2:base<=w2.heap.size:=lC hs1 hb2.size;clear hb2 hX hr1 c35 c36 c2 c0 c1;go_upto_region 6 with fail;obtain⟨PS,hPS⟩:∃ PS:World->Prop,∀ z,PS z ↔ z.cell? ⟨w.heap.size,35,none⟩=some (.int .i64 (q:Int)):=⟨_,fun _=>lP⟩;have s1:∀ s:Cls PS,s.1.cell? ⟨w.heap.size,35,none⟩=some (.int .i64 (q:Int)):=fun s=>(hPS _).1 s.2;have hcq:∀ W,Blk W w.heap.size 178 (Z9 x)->W.cell? ⟨w.heap.size,35,none⟩=some (.int .i64 (q:Int)):=fun W hW=>by
     have:=(Jj hW hf.out).2.2.2.1;rw[hq.out] at this;exact this
    have s4:PS w2.drew:=(hPS _).2 (hcq _ hX2.drew);haveI : Nonempty (Cls PS):=⟨⟨_,s4⟩⟩;replace hPS:=iD hPS;replace hcq:=iD hcq;refine Ur (fun w'=>∃ s:Cls PS,w'=s.1) (.one [0,1,2,4,5,6,8,9,10] 3 (.one [] 7 (.tail []))) 11 [12] (by kernel_rfl) (by kernel_rfl) (fun _ d _ _ _ h=>by cases d <;> exact h) ⟨⟨_,s4⟩,rfl⟩ ?_;simp only[Kz,Qj,Zj,lM,lN,Yw,Ys];repeat (first | go_big_quiet_step (fail))
    refine lD ?_;intro K hK;go_simp;refine (Kl 10 _ xs base _ (by omega) hr2.drew (by simpa using hsz2) (by omega)).mono ?_;rintro e w3 ⟨V,rfl,hr3,hb3,hk3⟩;have hX3:=hk3 _ _ _ hX2.drew (by decide);refine hK _ _ ⟨⟨_,(hPS.out _).2 (hcq.out _ hX3)⟩,rfl⟩ ?_;clear hK;refine lD ?_;intro K hK;obtain⟨ys,hys⟩:∃ ys,ys=xs++Zp 10:=⟨_,rfl⟩;obtain⟨GA,gc,rfl,_,_⟩:=Z6 hr3;rw[<-hys] at hr3 ⊢;have hl3:ys.length<=1000020:=by
     have : (Zp 10).length=1:=by rw[Vy (by omega)];rfl
     rw[hys];simp only[lA,this];omega
    have hsz3:base<=w3.heap.size:=lC (by simpa using hsz2) hb3.size;have hb3':=hb2'.out.trans ((lB base w2).drew.trans hb3);have hk3':=hk2.out.trans ((Y3.below (lB _ _).drew).trans hk3);have hrd:Rd w3 (fun _=>True) (some ⟨w.heap.size,3,none⟩) (x.at_.com.map B):=fun _=>⟨_,rfl,trivial,fun j u hj=>by
     have:=hX3.cell (3+j);rw[Z6h hf.out j u hj] at this;simpa[Xj] using this⟩
    have hcl:(x.at_.com.map B).length=32:=by rw[lX];exact hf.out.com
    refine V5 _ rfl (.tmp 18) (.tmp 21) 99 rfl base 5 (B 0) 1 1 underlying99 Kc (.slice GA ys.length gc) ys.length (ys.map B) rfl hr3 (fun _=>True) (some ⟨w.heap.size,3,none⟩) 32 32 (x.at_.com.map B) rfl hcl hrd (by intro u hu;obtain⟨a,_,rfl⟩:=lO.1 hu;rfl) (by unfold maxLen;omega) (by omega) hsz3 ?_;intro v5 w5 hrow5 hg5 hv5;obtain⟨us,hus⟩:∃ us,us=ys++x.at_.com:=⟨_,rfl⟩;have hul:us.length=ys.length+32:=by rw[hus,lA,hf.out.com]
    have hrow5':w5.ownsRow base 5 1 v5 us.length (us.map B):=by
     rw[hul,hus,lT];exact hrow5
    have hk5:=hk3'.trans (Y3.grown hr3 hg5);have hX5:Blk w5 w.heap.size 178 (Z9 x):=Y3.grown hr3 hg5 _ _ _ hX3 (by decide);have hb5:=hb3'.trans (Yd hr3 hg5 hsz3);have hsz5:base<=w5.heap.size:=lC hsz3 hg5.size;obtain⟨HA,hc,rfl,_,_⟩:=Z6 hrow5';refine hK _ _ ⟨⟨_,(hPS.out _).2 (hcq.out _ hX5)⟩,rfl⟩ ?_;clear hK hrow5 hg5 hv5 hr3 hb3 hk3 hX3 hrd hk3' hb3';refine lD ?_
    change wpList _ _ _ _ _ _
    replace hrow5':=iD hrow5';replace hk5:=iD hk5;replace hX5:=iD hX5;replace hb5:=iD hb5;replace hys:=iD hys;replace hus:=iD hus;replace hul:=iD hul;go_wp2_with fail;refine (Kl q _ us base _ (by omega) hrow5'.out hsz5 (by have:=hul.out;omega)).mono ?_;rintro e w4 ⟨V,rfl,hr4,hb4,hk4⟩;have hX4:=iD (hk4 _ _ _ hX5.out (by decide));have hsz4:base<=w4.heap.size:=lC hsz5 hb4.size;have hb4':=iD (hb5.out.trans hb4);have hk4':=iD (hk5.out.trans hk4);obtain⟨zs,hzs⟩:∃ zs,zs=us++Zp q:=⟨_,rfl⟩;rw[<-hzs] at hr4;have hzl:zs.length<=1000090:=by
     have:=hul.out;rw[hzs,lA];omega
    replace hzs:Hid (zs=xs++atS x):=iD (by
     rw[hzs,hus.out,hys.out];unfold atS;rw[if_neg (by rw[hw];decide),if_neg (by rw[hrr];decide),hqn.out,show opN x=2 by unfold opN;rw[hk,hl];rfl];simp only[lF])
    replace hr4:=iD hr4;clear hb4 hk4;obtain⟨GC,gcc,rfl,_,_⟩:=Z6 hr4.out;obtain⟨p0,_,_,_,p36⟩:=Jj hX4.out hf.out;rw[hk] at p0;rw[<-hby.out] at p36;replace p0:w4.cell? ⟨w.heap.size,0,none⟩=some (.int .i64 1):=p0;go_wp2_with (at_builtin;refine X0 _ rfl (.tmp 49) (.tmp 52) 99 rfl base 5 (B 0) 1 1 underlying99 Kc (.slice GC zs.length gcc) zs.length (zs.map B) rfl (hr4.out.alloc _) (fun _=>True) (some ⟨w4.heap.size,0,none⟩) 1 1 [B by_] rfl rfl (Rd.of_blk (cs:=[B by_]) (r:=[]) (Blk.new_at rfl) rfl trivial) (Z1h by_) (by unfold maxLen;omega) (by omega) (by simp;omega) ?_;intro v4 W4 hrow4 hg4 hv4;replace hrow4:=iD hrow4;replace hg4:=iD hg4;clear hv4;obtain⟨VA,vc,rfl,_,_⟩:=Z6 hrow4.out;go_frame);go_ret;refine⟨_,rfl,?_,hb4'.out.trans ((bL |>.mono hsz4).trans (Yd (hr4.out.alloc _) hg4.out (by simp;omega))),hk4'.out.trans ((Y3.below bL).trans (Y3.grown (hr4.out.alloc _) hg4.out))⟩;have h1:=hrow4.out;have h2:xs++opS x=zs++[by_]:=by
     rw[hzs.out,hby.out];unfold opS;rw[if_pos hk,lF]
    rw[h2];simpa using h1
 ·rw[hk] at c0;rw[hl] at c1;cases hw:x.at_.own with
  | true =>
   rw[hw] at c2;go_enter func102,ntmps102;go_wp2_with fail;obtain⟨PS,hPS⟩:∃ PS:World->Prop,∀ z,PS z ↔ z.cell? ⟨w.heap.size,35,none⟩=some (.int .i64 (q:Int)):=⟨_,fun _=>lP⟩;have s1:∀ s:Cls PS,s.1.cell? ⟨w.heap.size,35,none⟩=some (.int .i64 (q:Int)):=fun s=>(hPS _).1 s.2;have s4:PS w1.drew:=(hPS _).2 c35;haveI : Nonempty (Cls PS):=⟨⟨_,s4⟩⟩;replace hPS:=iD hPS;refine Z14 (fun w'=>∃ s:Cls PS,w'=s.1) [0,1,2,4,5,6] [3] 7 [8] (by kernel_rfl) (by kernel_rfl) (fun _ d _ _ _ h=>by cases d <;> exact h) ⟨⟨_,s4⟩,rfl⟩ ?_;simp only[Zj,lM,lN,Yw,Ys];repeat (first | go_big_quiet_step (fail))
   refine lD ?_;intro K hK;go_simp;refine (Kl 5 _ xs base _ (by omega) hr1.drew (by simpa using hs1) (by omega)).mono ?_;rintro e w3 ⟨V,rfl,hr3,hb3,hk3⟩;have hX3:=hk3 _ _ _ hX.drew (by decide);have p35:=(Jj hX3 hf.out).2.2.2.1;rw[hq.out] at p35;refine hK _ _ ⟨⟨_,(hPS.out _).2 p35⟩,rfl⟩ ?_
   change wpList _ _ _ _ _ _
   obtain⟨ys,hys⟩:∃ ys,ys=xs++Zp 5:=⟨_,rfl⟩;obtain⟨GA,gc,rfl,_,_⟩:=Z6 hr3;rw[<-hys] at hr3 ⊢;have hl3:ys.length<=1000020:=by
    have : (Zp 5).length=1:=by rw[Vy (by omega)];rfl
    rw[hys];simp only[lA,this];omega
   have hsz3:base<=w3.heap.size:=lC (by simpa using hs1) hb3.size;have hb3':=iD ((hb1'.out.trans (lB base w1).drew).trans hb3);have hk3':=iD ((hk1'.out.trans (Y3.below (lB _ _).drew)).trans hk3);replace hys:=iD hys;replace hr3:=iD hr3;replace hX3:=iD hX3;clear hb3 hk3;go_wp2_with fail;refine (Kl q _ ys base _ (by omega) hr3.out hsz3 (by omega)).mono ?_;rintro e w4 ⟨V,rfl,hr4,hb4,hk4⟩;have hX4:=iD (hk4 _ _ _ hX3.out (by decide));have hsz4:base<=w4.heap.size:=lC hsz3 hb4.size;have hb4':=iD (hb3'.out.trans hb4);have hk4':=iD (hk3'.out.trans hk4);obtain⟨zs,hzs⟩:∃ zs,zs=ys++Zp q:=⟨_,rfl⟩;rw[<-hzs] at hr4;have hzl:zs.length<=1000040:=by rw[hzs,lA];omega
   replace hzs:Hid (zs=xs++atS x):=iD (by
    rw[hzs,hys.out];unfold atS;rw[if_pos hw,hqn.out,show opN x=1 by unfold opN;rw[hk,hl];rfl,lF])
   replace hr4:=iD hr4;clear hb4 hk4 hr3 hX3;obtain⟨GC,gcc,rfl,_,_⟩:=Z6 hr4.out;obtain⟨p0,_,_,_,p36⟩:=Jj hX4.out hf.out;rw[hk] at p0;clear c0 c1 c2 c35 c36;replace p0:w4.cell? ⟨w.heap.size,0,none⟩=some (.int .i64 2):=p0;go_wp2_with fail;go_ret;refine⟨_,rfl,?_,hb4'.out,hk4'.out⟩;have h1:=hr4.out;have h2:xs++opS x=zs:=by
    rw[hzs.out];unfold opS;rw[if_neg (by rw[hk];decide),nD]
   rw[h2];exact h1
  | false =>
   rw[hw] at c2;have hrr:=hrt;go_enter func102,ntmps102;go_wp2_with (first
    | (refine K3 rfl 158 (.tmp 40) rfl w.heap.size 2 rfl 178 (Z9 x) (Z1 x.at_) [B x.byte] hX rfl _ underlying158 rfl hsr.out ?_)
    | fail)
   refine (hroot.out _).mono ?_;rintro e w2 ⟨rfl,hb2⟩;rw[hrr];have hX2:=hX.below hb2 hX.lt;have hr2:=Zk hr1 (Touch.ofBelow (L:=[]) hb2) (fun _ _ hm=>by cases hm);have hb2':=iD (hb1'.out.trans (hb2.mono hs1));have hk2:=iD (hk1'.out.trans (Y3.below hb2));have hsz2:base<=w2.heap.size:=lC hs1 hb2.size;clear hb2 hX hr1 c35 c36 c2 c0 c1;go_upto_region 6 with fail;obtain⟨PS,hPS⟩:∃ PS:World->Prop,∀ z,PS z ↔ z.cell? ⟨w.heap.size,35,none⟩=some (.int .i64 (q:Int)):=⟨_,fun _=>lP⟩;have s1:∀ s:Cls PS,s.1.cell? ⟨w.heap.size,35,none⟩=some (.int .i64 (q:Int)):=fun s=>(hPS _).1 s.2;have hcq:∀ W,Blk W w.heap.size 178 (Z9 x)->W.cell? ⟨w.heap.size,35,none⟩=some (.int .i64 (q:Int)):=fun W hW=>by
    have:=(Jj hW hf.out).2.2.2.1;rw[hq.out] at this;exact this
   have s4:PS w2.drew:=(hPS _).2 (hcq _ hX2.drew);haveI : Nonempty (Cls PS):=⟨⟨_,s4⟩⟩;replace hPS:=iD hPS;replace hcq:=iD hcq;refine Ur (fun w'=>∃ s:Cls PS,w'=s.1) (.one [0,1,2,4,5,6,8,9,10] 3 (.one [] 7 (.tail []))) 11 [12] (by kernel_rfl) (by kernel_rfl) (fun _ d _ _ _ h=>by cases d <;> exact h) ⟨⟨_,s4⟩,rfl⟩ ?_;simp only[Kz,Qj,Zj,lM,lN,Yw,Ys];repeat (first | go_big_quiet_step (fail))
   refine lD ?_;intro K hK;go_simp;refine (Kl 9 _ xs base _ (by omega) hr2.drew (by simpa using hsz2) (by omega)).mono ?_;rintro e w3 ⟨V,rfl,hr3,hb3,hk3⟩;have hX3:=hk3 _ _ _ hX2.drew (by decide);refine hK _ _ ⟨⟨_,(hPS.out _).2 (hcq.out _ hX3)⟩,rfl⟩ ?_;clear hK;refine lD ?_;intro K hK;obtain⟨ys,hys⟩:∃ ys,ys=xs++Zp 9:=⟨_,rfl⟩;obtain⟨GA,gc,rfl,_,_⟩:=Z6 hr3;rw[<-hys] at hr3 ⊢;have hl3:ys.length<=1000020:=by
    have : (Zp 9).length=1:=by rw[Vy (by omega)];rfl
    rw[hys];simp only[lA,this];omega
   have hsz3:base<=w3.heap.size:=lC (by simpa using hsz2) hb3.size;have hb3':=hb2'.out.trans ((lB base w2).drew.trans hb3);have hk3':=hk2.out.trans ((Y3.below (lB _ _).drew).trans hk3);have hrd:Rd w3 (fun _=>True) (some ⟨w.heap.size,3,none⟩) (x.at_.com.map B):=fun _=>⟨_,rfl,trivial,fun j u hj=>by
    have:=hX3.cell (3+j);rw[Z6h hf.out j u hj] at this;simpa[Xj] using this⟩
   have hcl:(x.at_.com.map B).length=32:=by rw[lX];exact hf.out.com
   refine V5 _ rfl (.tmp 18) (.tmp 21) 99 rfl base 5 (B 0) 1 1 underlying99 Kc (.slice GA ys.length gc) ys.length (ys.map B) rfl hr3 (fun _=>True) (some ⟨w.heap.size,3,none⟩) 32 32 (x.at_.com.map B) rfl hcl hrd (by intro u hu;obtain⟨a,_,rfl⟩:=lO.1 hu;rfl) (by unfold maxLen;omega) (by omega) hsz3 ?_;intro v5 w5 hrow5 hg5 hv5;obtain⟨us,hus⟩:∃ us,us=ys++x.at_.com:=⟨_,rfl⟩;have hul:us.length=ys.length+32:=by rw[hus,lA,hf.out.com]
   have hrow5':w5.ownsRow base 5 1 v5 us.length (us.map B):=by
    rw[hul,hus,lT];exact hrow5
   have hk5:=hk3'.trans (Y3.grown hr3 hg5);have hX5:Blk w5 w.heap.size 178 (Z9 x):=Y3.grown hr3 hg5 _ _ _ hX3 (by decide);have hb5:=hb3'.trans (Yd hr3 hg5 hsz3);have hsz5:base<=w5.heap.size:=lC hsz3 hg5.size;obtain⟨HA,hc,rfl,_,_⟩:=Z6 hrow5';refine hK _ _ ⟨⟨_,(hPS.out _).2 (hcq.out _ hX5)⟩,rfl⟩ ?_;clear hK hrow5 hg5 hv5 hr3 hb3 hk3 hX3 hrd hk3' hb3';refine lD ?_
   change wpList _ _ _ _ _ _
   replace hrow5':=iD hrow5';replace hk5:=iD hk5;replace hX5:=iD hX5;replace hb5:=iD hb5;replace hys:=iD hys;replace hus:=iD hus;replace hul:=iD hul;go_wp2_with fail;refine (Kl q _ us base _ (by omega) hrow5'.out hsz5 (by have:=hul.out;omega)).mono ?_;rintro e w4 ⟨V,rfl,hr4,hb4,hk4⟩;have hX4:=iD (hk4 _ _ _ hX5.out (by decide));have hsz4:base<=w4.heap.size:=lC hsz5 hb4.size;have hb4':=iD (hb5.out.trans hb4);have hk4':=iD (hk5.out.trans hk4);obtain⟨zs,hzs⟩:∃ zs,zs=us++Zp q:=⟨_,rfl⟩;rw[<-hzs] at hr4;have hzl:zs.length<=1000090:=by
    have:=hul.out;rw[hzs,lA];omega
   replace hzs:Hid (zs=xs++atS x):=iD (by
    rw[hzs,hus.out,hys.out];unfold atS;rw[if_neg (by rw[hw];decide),if_neg (by rw[hrr];decide),hqn.out,show opN x=1 by unfold opN;rw[hk,hl];rfl];simp only[lF])
   replace hr4:=iD hr4;clear hb4 hk4;obtain⟨GC,gcc,rfl,_,_⟩:=Z6 hr4.out;obtain⟨p0,_,_,_,p36⟩:=Jj hX4.out hf.out;rw[hk] at p0;replace p0:w4.cell? ⟨w.heap.size,0,none⟩=some (.int .i64 2):=p0;go_wp2_with fail;go_ret;refine⟨_,rfl,?_,hb4'.out,hk4'.out⟩;have h1:=hr4.out;have h2:xs++opS x=zs:=by
    rw[hzs.out];unfold opS;rw[if_neg (by rw[hk];decide),nD]
   rw[h2];exact h1
end
section
set_option maxRecDepth 100000
set_option maxHeartbeats 8000000
open Go.Lib renaming hid → iD
open Go.Proofs.Tryz
open Go.RowKit
theorem Z6i:∀ {l:List Str} {k:Nat},rises l=true->k+1<l.length->Ze (l.getD k []) (l.getD (k+1) [])=true
 | [],_,_,h=>by simp at h
 | [_],_,_,h=>by simp at h
 | a :: b :: r,0,h,_=>by
  simp only[rises,lW] at h;simpa using h.1
 | a :: b :: r,k+1,h,hk=>by
  simp only[rises,lW] at h;have:=Z6i (l:=b :: r) (k:=k) h.2 (by simpa using hk);simpa using this
structure MayOk (c:PCom):Prop where
 par:c.parents.length<=8
 rises:rises c.parents=true
 author:Yi c.author=true
 note:c.note.length<=200
 ops:c.ops.length<=2000
 right:∀ i,i<c.ops.length->Oa c.ops ((i:Int)+1)=0
theorem Zlb(c:PCom)(cs:List Value)(ok:Nat->Prop)(w:World)(h:Y8 w ok cs c)(hf:ComFit c)(hm:MayOk c) :
  Calls lI 99 #[.agg cs.toArray] w fun e w'=>e=.returned (.int .i64 0)/\Below w.heap.size w w':=by
 obtain⟨m1,m2,m3,m4,m5,m6⟩:=hm;have hpok:=iD hf.par.ok;have hofit:=iD hf.ops;obtain⟨p,o,rfl,hP,hO⟩:=h;have hP':=iD hP;have hO':=iD hO;obtain⟨PA,pc,rfl,_,_⟩:=hP;obtain⟨OA,oc,rfl,_,_⟩:=hO;have hnm:=fun W=>Od c.author W (by have:=nmOk_len' m3;omega);unfold Z0 at hnm;simp only[m3] at hnm;replace hnm:=iD hnm;obtain⟨ps,hps⟩:∃ ps,ps=c.parents:=⟨_,rfl⟩;obtain⟨ops,hops⟩:∃ ops,ops=c.ops:=⟨_,rfl⟩;obtain⟨au,hau⟩:∃ au,au=c.author:=⟨_,rfl⟩;obtain⟨nt,hnt⟩:∃ nt,nt=c.note:=⟨_,rfl⟩;rw[<-hps] at hP' hpok m1 m2 ⊢;rw[<-hops] at hO' hofit m5 m6 ⊢;rw[<-hau] at hnm m3 ⊢;rw[<-hnt] at m4 ⊢;have hnl:(⟨nt.toArray⟩:ByteArray).size=nt.length:=Ui nt;clear hps hops hau hnt hf;have g8:decide ((8:Int)<(ps.length:Int))=false:=decide_eq_false (by omega);have g2:decide ((200:Int)<(nt.length:Int))=false:=decide_eq_false (by omega);have g3:decide ((2000:Int)<(ops.length:Int))=false:=decide_eq_false (by omega);replace m2:=iD m2;replace m6:=iD m6;clear m3;unfold Z0;go_enter func99,ntmps99;go_wp2_with fail;generalize hW1:lY w (l7 _ 82)=w1;have hb1:Below w.heap.size w w1:=by rw[<-hW1];exact bL
 have hB1:Blk w1 w.heap.size 82 [.slice PA ps.length pc,.string ⟨au.toArray⟩,.string ⟨nt.toArray⟩,.slice OA ops.length oc]:=by rw[<-hW1];exact Blk.new_at (cs:=[.slice PA ps.length pc,.string ⟨au.toArray⟩,.string ⟨nt.toArray⟩,.slice OA ops.length oc]) rfl
 clear hW1;replace hb1:=iD hb1;replace hB1:=iD hB1;go_loopw [13] (fun i wr=>∃ m:Nat,m<=ps.length/\i=.int .i64 (m:Int)/\Below w1.heap.size w1 wr) (fun i _=>ps.length - (intOf i).toNat)
 case atStart=>exact⟨0,lQ _,rfl,lB _ _⟩
 case round =>
  obtain⟨m,hm,rfl,hbr⟩:=hrel;by_cases hlt:m<ps.length
  ·have i1:(0:Int)<=(m:Int):=by omega
   have i2:(m:Int)<(ps.length:Int):=by omega
   have hBr:=hB1.out.below hbr hB1.out.lt;have d0:wr.cell? ⟨w.heap.size,0,none⟩=some (.slice PA ps.length pc):=hBr.cell 0;by_cases hm0:m=0
   ·have g0:decide ((0:Int)<(m:Int))=false:=decide_eq_false (by omega);replace hbr:=iD hbr;clear hBr;go_wp2_with fail;refine Ye 14 (by kernel_rfl) (by kernel_rfl) ?_;simp only[nE,nF,nG,nH];repeat (first | go_big_quiet_step (fail))
    refine lD ?_;rintro _ ⟨nq,rfl⟩;have hbf:=hbr.out.trans ((Touch.drewN (L:=[]) nq).below hbr.out.size (fun _ hi=>by cases hi));go_wp2_with fail;refine⟨⟨0+1,by omega,by simp,hbf⟩,by simp[intOf];omega⟩
   ·obtain⟨k,hk⟩:∃ k,m=k+1:=⟨m - 1,by omega⟩;have hPr:=(hP'.out.stayB hb1.out).stayB (hbr.mono (lE _));have hkl:k<ps.length:=by omega
    obtain⟨b,o,hA,_,hbl,hc1⟩:=hPr.dig hpok.out k hkl;obtain⟨b',o',hA',_,_,hc2⟩:=hPr.dig hpok.out m hlt;rw[hA] at hA';cases hA'
    subst hA;obtain⟨d1,hd1⟩:∃ d1,d1=ps[k]:=⟨_,rfl⟩;obtain⟨d2,hd2⟩:∃ d2,d2=ps[m]:=⟨_,rfl⟩;have hl1:d1.length=32:=by rw[hd1];exact hpok.out _ (lH _)
    have hl2:d2.length=32:=by rw[hd2];exact hpok.out _ (lH _)
    have hless:Ze d1 d2=true:=by
     have:=Z6i m2.out (k:=k) (by omega);rw[hd1,hd2];simpa[List.getD,hkl,hlt,<-hk] using this
    rw[<-hd1] at hc1;rw[<-hd2] at hc2;have g0:decide ((0:Int)<(m:Int))=true:=decide_eq_true (by omega);have g0':decide (0<m)=true:=decide_eq_true (by omega);have gw:lL.wrap ((m:Int) - 1)=(k:Int):=by rw[show (m:Int) - 1=(k:Int) by omega];exact l4 _ (by omega)
    have k1:(0:Int)<=(k:Int):=by omega
    have k2:(k:Int)<(ps.length:Int):=by omega
    have e1:Hid (∀ w',(∃ n,w'=wr.drewN n)->∀ j v,(d1.map B)[j]?=some v->w'.cell? ⟨b,o+k*32+j,none⟩=some v):=iD (by rintro _ ⟨n,rfl⟩;exact hc1);have e2:Hid (∀ w',(∃ n,w'=wr.drewN n)->∀ j v,(d2.map B)[j]?=some v->w'.cell? ⟨b,o+m*32+j,none⟩=some v):=iD (by rintro _ ⟨n,rfl⟩;exact hc2);have hcall:=iD (fun W=>Z2j d1 d2 hl1 hl2 W);rw[hless] at hcall;replace hbr:=iD hbr;replace hk:=iD hk;replace hd1:=iD hd1;replace hd2:=iD hd2;clear hBr hPr hc1 hc2 hless hm0;go_wp2_with fail;refine Ye 14 (by kernel_rfl) (by kernel_rfl) ?_;simp only[nE,nF,nG,nH];repeat (first
     | go_big_quiet_step (fail)
     | (refine Vw 47 (.tmp 23) rfl rfl b (o+k*32) rfl (d1.map B) e1.out _ underlying47 rfl (Za hl1) ?_;go_frame)
     | (refine Vw 47 (.tmp 28) rfl rfl b (o+m*32) rfl (d2.map B) e2.out _ underlying47 rfl (Za hl2) ?_;go_frame))
    refine lD ?_;rintro _ ⟨nq,rfl⟩;have hbf:=iD (hbr.out.trans ((Touch.drewN (L:=[]) nq).below hbr.out.size (fun _ hi=>by cases hi)));go_wp2_with fail;refine (hcall.out _).mono ?_;rintro e w3 ⟨rfl,hb3⟩;have hb4:=iD (hbf.out.trans (hb3.mono hbf.out.size));clear hb3 hcall e1 e2;go_wp2_with fail;refine⟨⟨m+1,by omega,by go_num,hb4.out⟩,by simp[intOf];omega⟩
  ·have hmt:m=ps.length:=by omega
   subst hmt;have hBr:=hB1.out.below hbr hB1.out.lt;have d1:wr.cell? ⟨w.heap.size,1,none⟩=some (.string ⟨au.toArray⟩):=hBr.cell 1;have hbr0:=iD (hb1.out.trans (hbr.mono hb1.out.size));replace hBr:=iD hBr;clear hbr;go_wp2_with fail;refine (hnm.out _).mono ?_;rintro e _ ⟨rfl,rfl⟩;obtain⟨w2,hw2⟩:∃ w2:World,w2=wr:=⟨_,rfl⟩;subst hw2;have d2:w2.cell? ⟨w.heap.size,2,none⟩=some (.string ⟨nt.toArray⟩):=hBr.out.cell 2;have d3:w2.cell? ⟨w.heap.size,3,none⟩=some (.slice OA ops.length oc):=hBr.out.cell 3;go_wp2_with fail;clear d1 d2 d3;go_loopw [52] (fun i wr=>∃ m:Nat,m<=ops.length/\i=.int .i64 m/\Below w2.heap.size w2 wr) (fun i _=>ops.length - (intOf i).toNat)
   case atStart=>exact⟨0,lQ _,rfl,lB _ _⟩
   case round =>
    obtain⟨m,hm,rfl,hbr⟩:=hrel;by_cases hlt2:m<ops.length
    ·have hBr2:=hBr.out.below hbr hBr.out.lt;have d3:wr.cell? ⟨w.heap.size,3,none⟩=some (.slice OA ops.length oc):=hBr2.cell 3;have hOr:=(hO'.out.stayB hbr0.out).stayB (hbr.mono (lE _));have hri:=iD (Zbb ops _ ok m wr hOr hofit.out hlt2 (m6.out m hlt2));have i1:(0:Int)<=(m:Int):=by omega
     have i2:(m:Int)<(ops.length:Int):=by omega
     replace hbr:=iD hbr;clear hBr2 hOr;go_wp2_with fail;refine hri.out.mono ?_;rintro e w3 ⟨rfl,hb3⟩;have hb4:=iD (hbr.out.trans (hb3.mono hbr.out.size));go_wp2_with fail;refine⟨⟨m+1,by omega,?_,hb4.out⟩,?_⟩
     ·go_num
     ·simp[intOf];omega
    ·have hmt:m=ops.length:=by omega
     subst hmt;go_wp2_with fail;go_returns;exact⟨rfl,hbr0.out.trans (hbr.mono hbr0.out.size)⟩
end
section
set_option maxRecDepth 100000
set_option maxHeartbeats 16000000
open Go.Lib renaming hid → iD
open Go.Proofs.Tryz
open Go.RowKit
structure EnG (w W:World) (cs:List Value) (V:Value) (xs:Str):Prop where
 row:W.ownsRow w.heap.size 5 1 V xs.length (xs.map B)
 below:Below w.heap.size w W
 box:Blk W w.heap.size 82 cs
theorem EnG.size{w W:World}{cs:List Value}{V:Value}{xs:Str}(h:EnG w W cs V xs):w.heap.size<=W.heap.size:=h.below.size
theorem EnG.next{w W W':World}{cs:List Value}{V V':Value}{xs ys:Str}(h:EnG w W cs V xs)(hr:W'.ownsRow w.heap.size 5 1 V' ys.length (ys.map B))(hb:Below w.heap.size W W')(hk:Y3 W W'):EnG w W' cs V' ys:=⟨hr,h.below.trans hb,hk _ _ _ h.box (by decide)⟩
theorem EnG.calm{w W W':World}{cs:List Value}{V:Value}{xs:Str}(h:EnG w W cs V xs)(hb:Below W.heap.size W W'):EnG w W' cs V xs:=⟨Zk h.row (Touch.ofBelow (L:=[]) hb) (fun _ _ hm=>by cases hm),h.below.trans (hb.mono h.size),h.box.below hb h.box.lt⟩
theorem op_n{l:List POp}(hl:l.length<=2000){m:Nat}{x:POp}(he:Oa l ((m:Int)+1)=0)(hx:l[m]?=some x):Ji x.at_=true/\Ka x=0/\x.at_.n<=2000/\(0<=x.at_.n):=by
 obtain⟨h1,h2,h3⟩:=Ut he hx;have hm:=(lJ.1 hx).1;refine⟨h1,h2,?_⟩;cases ho:x.at_.own with
 | true =>
  obtain⟨j,y,e,hj,_,_⟩:=Z3o h3 h1 ho;omega
 | false =>
  by_cases hr:x.at_=Z8
  ·rw[hr];decide
  ·have:=Z6f h1 ho hr;omega
theorem Zbc{x:POp}(hc:x.at_.com.length=32)(hn:x.at_.n<=2000):(opS x).length<=60:=by
 have h1:(Zp x.at_.n.toNat).length<=10:=Gl (by omega);have h2:opN x<=3:=by
  unfold opN;split <;> split <;> omega
 have h3:∀ k,k<=20->(Zp k).length<=10:=fun k hk=>Gl (by omega);have h4:=h3 (opN x) (by omega);have h5:=h3 (opN x+4) (by omega);have h6:=h3 (opN x+8) (by omega);unfold opS atS;split
 ·split <;> simp only[lA,lV,l8] <;> omega
 ·split
  ·split <;> simp only[lA,lV,l8] <;> omega
  ·split <;> simp only[lA,lV,l8] <;> omega
theorem Zbd{l:List POp}(h:∀ x ∈ l,(opS x).length<=60):(l.flatMap opS).length<=60*l.length:=by
 induction l with
 | nil=>simp
 | cons x l ih =>
  have h1:=ih (fun y hy=>h y (by simp[hy]));have h2:=h x (by simp);rw[List.flatMap_cons,lA,l5];omega
theorem Zbe{l:List Str}(h:hOk l):l.flatten.length=l.length*32:=by
 induction l with
 | nil=>rfl
 | cons d l ih =>
  have h1:=ih (fun y hy=>h y (by simp[hy]));have h2:d.length=32:=h d (by simp);rw[List.flatten_cons,lA,l5,h1,h2];omega
theorem Zlc{l:List Str}{m:Nat}(hm:m<l.length):(l.take (m+1)).flatten=(l.take m).flatten++l[m]:=by
 rw[nI hm,List.flatten_append];simp
theorem Zld{l:List POp}{m:Nat}(hm:m<l.length):(l.take (m+1)).flatMap opS=(l.take m).flatMap opS++opS l[m]:=by
 rw[nI hm,List.flatMap_append];simp
theorem Zbf(c:PCom)(cs:List Value)(ok:Nat->Prop)(w:World)(h:Y8 w ok cs c)(hf:ComFit c)(hm:MayOk c) :
    Calls lI 45 #[.agg cs.toArray] w fun e w'=>∃ V,e=.returned (.tuple #[V,.int .i64 0])/\w'.ownsRow w.heap.size 5 1 V (Q7 c).length ((Q7 c).map B)/\Below w.heap.size w w':=by
  have hmay:=iD (fun W (hb:Below w.heap.size w W)=>Zlb c cs ok W (h.stayB hb) hf hm);obtain⟨m1,m2,m3,m4,m5,m6⟩:=hm;have hal:=nmOk_len' m3;have hpok:=iD hf.par.ok;have hofit:=iD hf.ops;obtain⟨p,o,rfl,hP,hO⟩:=h;have hP':=iD hP;have hO':=iD hO;obtain⟨PA,pc,rfl,_,_⟩:=hP;obtain⟨OA,oc,rfl,_,_⟩:=hO;have hfin:Hid (Q7 c=Zp c.parents.length++c.parents.flatten++Kx c.author++Kx c.note++Zp c.ops.length++c.ops.flatMap opS):=iD rfl;obtain⟨enc,henc⟩:∃ enc,enc=Q7 c:=⟨_,rfl⟩;rw[<-henc] at hfin ⊢;obtain⟨ps,hps⟩:∃ ps,ps=c.parents:=⟨_,rfl⟩;obtain⟨ops,hops⟩:∃ ops,ops=c.ops:=⟨_,rfl⟩;obtain⟨au,hau⟩:∃ au,au=c.author:=⟨_,rfl⟩;obtain⟨nt,hnt⟩:∃ nt,nt=c.note:=⟨_,rfl⟩;rw[<-hps] at hP' hpok m1 hfin hmay ⊢;rw[<-hops] at hO' hofit m5 m6 hfin hmay ⊢;rw[<-hau] at hal hfin hmay ⊢;rw[<-hnt] at m4 hfin hmay ⊢;replace m6:=iD m6;clear hps hops hau hnt hf m2 m3 henc;unfold Z0 at hmay ⊢;go_enter func45,ntmps45;go_wp2_with fail;generalize hW1:lY w (l7 _ 82)=w1;obtain⟨cs,hcs⟩:∃ cs:List Value,cs=[.slice PA ps.length pc,.string ⟨au.toArray⟩,.string ⟨nt.toArray⟩,.slice OA ops.length oc]:=⟨_,rfl⟩;have hS1:EnG w w1 cs Z2 []:=⟨⟨rfl,.inl ⟨rfl,rfl⟩⟩,by rw[<-hW1];exact bL,by rw[<-hW1,hcs];exact Blk.new_at (cs:=[.slice PA ps.length pc,.string ⟨au.toArray⟩,.string ⟨nt.toArray⟩,.slice OA ops.length oc]) rfl⟩;have hcs0:=iD (show cs[0]?=some (.slice PA ps.length pc)/\cs[1]?=some (.string ⟨au.toArray⟩)/\cs[2]?=some (.string ⟨nt.toArray⟩)/\cs[3]?=some (.slice OA ops.length oc) by rw[hcs];exact⟨rfl,rfl,rfl,rfl⟩);clear hW1 hcs;refine (hmay.out _ hS1.below).mono ?_;rintro e w2 ⟨rfl,hb2⟩;have hS2:=hS1.calm hb2;have k0:w2.cell? ⟨w.heap.size,0,none⟩=some (.slice PA ps.length pc):=(hS2.box.cell 0).trans hcs0.out.1;have hs2:=hS2.size;have hnum:=iD (Kl ps.length Z2 [] w.heap.size w2 (by omega) hS2.row hs2 (by simp));replace hS2:=iD hS2;clear hS1 hb2;go_wp2_with fail;refine hnum.out.mono ?_;rintro e w3 ⟨V,rfl,hr3,hb3,hk3⟩;have hS3:=hS2.out.next hr3 hb3 hk3;have k0':w3.cell? ⟨w.heap.size,0,none⟩=some (.slice PA ps.length pc):=(hS3.box.cell 0).trans hcs0.out.1;obtain⟨GA,gc,rfl,_,_⟩:=Z6 hr3;clear hr3 hb3 hk3 hnum k0;rw[List.nil_append] at *;have hp0:(Zp ps.length).length<=10:=Gl (by omega);replace hS3:=iD hS3;go_wp2_with fail;go_loopw [5,22] (fun b i wr=>∃ m:Nat,m<=ps.length/\i=.int .i64 (m:Int)/\EnG w wr cs b (Zp ps.length++(ps.take m).flatten)) (fun _ i _=>ps.length - (intOf i).toNat)
  case atStart=>exact⟨0,lQ _,rfl,by simpa using hS3.out⟩
  case round =>
    obtain⟨m,hm,rfl,hst⟩:=hrel;obtain⟨zs,hzs⟩:∃ zs,zs=Zp ps.length++(ps.take m).flatten:=⟨_,rfl⟩;have hzl:zs.length<=300:=by
      have h1:=Zbe (l:=ps.take m) (fun y hy=>hpok.out y (List.mem_of_mem_take hy));have h2:(ps.take m).length<=8:=by rw[l9];omega
      rw[hzs,lA];omega
    rw[<-hzs] at hst;obtain⟨FA,fc,rfl,_,_⟩:=Z6 hst.row;by_cases hlt:m<ps.length
    · have hPr:=hP'.out.stayB hst.below
      obtain⟨b,o,rfl,_,hbl,hc1⟩:=hPr.dig hpok.out m hlt;obtain⟨d,hd⟩:∃ d,d=ps[m]:=⟨_,rfl⟩;have hdl:d.length=32:=by rw[hd];exact hpok.out _ (lH _)
      rw[<-hd] at hc1;have i1:(0:Int)<=(m:Int):=by omega
      have i2:(m:Int)<(ps.length:Int):=by omega
      have hfl:=iD (Zlc hlt);rw[<-hd] at hfl;have hsz:=hst.size;have hdm:(d.map B).length=32:=by rw[lX];exact hdl
      replace hc1:=iD hc1;replace hst:=iD hst;replace hzs:=iD hzs;replace hd:=iD hd;replace hdm:=iD hdm;clear hPr hmay hS3;go_wp2_with (first
        | (refine lR rfl 47 (.tmp 24) rfl b (o+m*32) rfl (d.map B) _ (fun j v hv=>hc1.out j v hv) underlying47 rfl (Za hdl) ?_)
        | (refine Zo rfl 47 (.tmp 7) (.tmp 25) rfl wr.heap.size (d.map B) rfl rfl 47 Z3 (Blk.new_at rfl) (by simp[hdl,Z3]) (Za hdl) (Yk _) ?_
           generalize hw1:lS _ wr.heap.size (d.map B).toArray=w9;have hB9:Blk w9 wr.heap.size 47 (d.map B):=by
             rw[<-hw1];exact (Blk.new_at (w:=wr) (t:=47) (cs:=Z3) rfl).setRow_same (d.map B)
           have hb9:Below wr.heap.size wr w9:=by
             rw[<-hw1];exact below_setRow ((lB wr.heap.size wr).alloc (lE _) (.cells Z3.toArray 47)) (lE _) (d.map B).toArray
           clear hw1;have hst9:=iD (hst.out.calm hb9);replace hB9:=iD hB9;replace hb9:=iD hb9;go_frame)
        | (at_builtin;refine X0 _ rfl (.tmp 26) (.tmp 27) 99 rfl w.heap.size 5 (B 0) 1 1 underlying99 Kc (.slice FA zs.length fc) zs.length (zs.map B) rfl hst9.out.row (fun _=>True) (some ⟨wr.heap.size,0,none⟩) 32 32 (d.map B) rfl hdm.out (Rd.of_blk (cs:=d.map B) (r:=[]) hB9.out (by simp) trivial) (Yk _) (by unfold maxLen;omega) (by omega) hst9.out.size ?_;intro v4 W4 hrow4 hg4 hv4;replace hrow4:=iD hrow4;replace hg4:=iD hg4;clear hv4;obtain⟨VA,vc,rfl,_,_⟩:=Z6 hrow4.out;go_frame)
        | fail)
      have hS4:EnG w W4 cs (.slice VA (zs.length+32) vc) (zs++d):=hst9.out.next (by
        have h1:=hrow4.out;rw[lA,hdl,lT];exact h1) (Yd hst9.out.row hg4.out hst9.out.size) (Y3.grown hst9.out.row hg4.out)
      go_roundw
      case rel =>
        refine⟨m+1,by omega,by go_num,?_⟩;rw[hfl.out,<-lF,<-hzs.out];exact hS4
      case measure=>simp[intOf];omega
    · have hmt:m=ps.length:=by omega
      subst hmt;rw[nJ] at hzs;clear hS3;replace hst:=iD hst;replace hzs:=iD hzs;have hta:=Z38 (s:=au) (by omega);have htn:=Z38 (s:=nt) (by omega);go_wp2_with fail;obtain⟨PS,hPS⟩:∃ PS:World->Prop,∀ x,PS x ↔ Blk x w.heap.size 82 cs:=⟨_,fun _=>lP⟩;have s1:∀ s:Cls PS,s.1.cell? ⟨w.heap.size,1,none⟩=some (.string ⟨au.toArray⟩):=fun s=>(((hPS _).1 s.2).cell 1).trans hcs0.out.2.1;have s2:∀ s:Cls PS,s.1.cell? ⟨w.heap.size,2,none⟩=some (.string ⟨nt.toArray⟩):=fun s=>(((hPS _).1 s.2).cell 2).trans hcs0.out.2.2.1;have s4:PS wr.drew:=(hPS _).2 hst.out.box.drew;haveI : Nonempty (Cls PS):=⟨⟨_,s4⟩⟩;replace hPS:=iD hPS;refine Kk (fun w'=>∃ s:Cls PS,w'=s.1) [([0,1,2,5,6],3),([],4)] [] 7 [8,9] (by kernel_rfl) (by kernel_rfl) (fun _ d _ _ _ h=>by cases d <;> exact h) ⟨⟨_,s4⟩,rfl⟩ ?_;simp only[Jr,Zj,lM,lN,Yw,Ys];repeat (first | go_big_quiet_step (fail))
      refine lD ?_;intro K hK;go_simp;have htx:=Z9b au wr.drew (by omega);unfold Z0 at htx;refine htx.mono ?_;rintro e w4 ⟨V4,rfl,hr4,hb4⟩;have hS4:=hst.out.calm ((lB _ _).drew.trans hb4);obtain⟨TA,tc,rfl,_,_⟩:=Z6 hr4;refine hK _ _ ⟨⟨_,(hPS.out _).2 hS4.box⟩,rfl⟩ ?_;clear hK;refine lD ?_;intro K hK;refine V5 _ rfl (.tmp 30) (.tmp 33) 99 rfl w.heap.size 5 (B 0) 1 1 underlying99 Kc (.slice FA zs.length fc) zs.length (zs.map B) rfl hS4.row _ TA (Kx au).length tc ((Kx au).map B) rfl (by simp) (Ua hr4) (by simp[nK]) (by unfold maxLen;omega) (by omega) hS4.size ?_;intro v5 w5 hrow5 hg5 hv5;obtain⟨y5,hy5⟩:∃ y5,y5=zs++Kx au:=⟨_,rfl⟩;have hl5:y5.length<=400:=by rw[hy5];simp only[lA];omega
      have hS5:=hS4.next (ys:=y5) (by rw[hy5];simpa using hrow5) (Yd hS4.row hg5 hS4.size) (Y3.grown hS4.row hg5);obtain⟨UA,uc,rfl,_,_⟩:=Z6 hS5.row;replace hy5:=iD hy5;refine hK _ _ ⟨⟨_,(hPS.out _).2 hS5.box⟩,rfl⟩ ?_;clear hK hrow5 hg5 hv5 hr4 hb4 htx;replace hS5:=iD hS5;refine lD ?_;go_wp2_with fail;have hs5:=hS5.out.size;have htx0:=Z9b nt w5 (by omega);unfold Z0 at htx0;refine htx0.mono ?_;rintro e w6 ⟨V6,rfl,hr6,hb6⟩;have hS6:=iD (hS5.out.calm hb6);obtain⟨TB,tb,rfl,_,_⟩:=Z6 hr6;have hR6:=iD (Ua hr6);clear hr6 hb6 htx0;have hs6:=hS6.out.size;go_wp2_with (at_builtin;refine X0 _ rfl (.tmp 34) (.tmp 37) 99 rfl w.heap.size 5 (B 0) 1 1 underlying99 Kc (.slice UA y5.length uc) y5.length (y5.map B) rfl hS6.out.row _ TB (Kx nt).length tb ((Kx nt).map B) rfl (by simp) hR6.out (by simp[nK]) (by unfold maxLen;omega) (by omega) hs6 ?_;intro v7 w7 hrow7 hg7 hv7;obtain⟨y7,hy7⟩:∃ y7,y7=y5++Kx nt:=⟨_,rfl⟩;have hl7:y7.length<=700:=(by rw[hy7];simp only[lA];omega);have hS7:=hS6.out.next (ys:=y7) (by rw[hy7];simpa using hrow7) (Yd hS6.out.row hg7 hs6) (Y3.grown hS6.out.row hg7);obtain⟨UB,ub,rfl,_,_⟩:=Z6 hS7.row;have k3:w7.cell? ⟨w.heap.size,3,none⟩=some (.slice OA ops.length oc):=(hS7.box.cell 3).trans hcs0.out.2.2.2;replace hS7:=iD hS7;replace hy7:=iD hy7;clear hrow7 hg7 hv7;go_frame);have hs7:=hS7.out.size;refine (Kl ops.length _ y7 w.heap.size _ (by omega) hS7.out.row hs7 (by omega)).mono ?_;rintro e w8 ⟨V,rfl,hr8,hb8,hk8⟩;obtain⟨y8,hy8⟩:∃ y8,y8=y7++Zp ops.length:=⟨_,rfl⟩;have hpt:(Zp ops.length).length<=10:=Gl (by omega);have hl8:y8.length<=720:=by rw[hy8];simp only[lA];omega
      rw[<-hy8] at hr8;have hS8:=hS7.out.next hr8 hb8 hk8;obtain⟨UC,ub8,rfl,_,_⟩:=Z6 hS8.row;have k38:w8.cell? ⟨w.heap.size,3,none⟩=some (.slice OA ops.length oc):=(hS8.box.cell 3).trans hcs0.out.2.2.2;replace hS8:=iD hS8;replace hy8:=iD hy8;clear hr8 hb8 hk8;go_wp2_with fail;go_loopw [5,47] (fun b i wr=>∃ m:Nat,m<=ops.length/\i=.int .i64 (m:Int)/\EnG w wr cs b (y8++(ops.take m).flatMap opS)) (fun _ i _=>ops.length - (intOf i).toNat)
      case atStart=>exact⟨0,lQ _,rfl,by simpa using hS8.out⟩
      case round =>
        obtain⟨m,hm,rfl,hst2⟩:=hrel;obtain⟨us,hus⟩:∃ us,us=y8++(ops.take m).flatMap opS:=⟨_,rfl⟩;rw[<-hus] at hst2;obtain⟨HA,hc,rfl,_,_⟩:=Z6 hst2.row;by_cases hlt:m<ops.length
        · have hxl:ops[m]?=some ops[m]:=lG hlt
          have hall:∀ x ∈ ops.take m,(opS x).length<=60:=fun x hx=>by
            obtain⟨i,hi,rfl⟩:=nL hx;have hi':i<ops.length:=by rw[l9] at hi;omega
            rw[List.getElem_take];exact Zbc (hofit.out.ok _ (lH _)).com (op_n m5 (m6.out i hi') (lG hi')).2.2.1
          have hul:us.length<=130000:=by
            have h1:=Zbd hall;have h2:(ops.take m).length<=2000:=by rw[l9];omega
            rw[hus,lA];omega
          have hfl:=iD (Zld hlt);obtain⟨n1,n2,n3,_⟩:=op_n m5 (m6.out m hlt) hxl;have hf:=hofit.out.ok _ (lH hlt);have hOr:=hO'.out.stayB hst2.below;obtain⟨b,o,rfl,_,hbl,hcells⟩:=hOr.op hofit.out.ok m hlt;obtain⟨x,hx⟩:∃ x,x=ops[m]:=⟨_,rfl⟩;rw[<-hx] at hcells hfl n1 n2 n3 hf;have i1:(0:Int)<=(m:Int):=by omega
          have i2:(m:Int)<(ops.length:Int):=by omega
          replace hst2:=iD hst2;replace hus:=iD hus;replace hcells:=iD hcells;replace hx:=iD hx;replace n1:=iD n1;replace n2:=iD n2;replace hf:=iD hf;clear hOr hall hxl hmay k38 k3;go_wp2_with (first
            | (refine lR rfl 178 (.tmp 49) rfl b (o+m*37) rfl (Z9 x) _ (fun j v hv=>hcells.out j v hv) underlying178 rfl (Qh hf.out) ?_)
            | (refine Zo rfl 178 (.tmp 9) (.tmp 50) rfl wr.heap.size (Z9 x) rfl rfl 178 Jt (Blk.new_at rfl) (by rw[Ug hf.out];rfl) (Qh hf.out) (Uj _) ?_
               generalize hw1:lS _ wr.heap.size (Z9 x).toArray=w9;have hB9:Blk w9 wr.heap.size 178 (Z9 x):=by
                 rw[<-hw1];exact (Blk.new_at (w:=wr) (t:=178) (cs:=Jt) rfl).setRow_same (Z9 x)
               have hb9:Below wr.heap.size wr w9:=by
                 rw[<-hw1];exact below_setRow ((lB wr.heap.size wr).alloc (lE _) (.cells Jt.toArray 178)) (lE _) (Z9 x).toArray
               clear hw1;replace hB9:=iD hB9;replace hb9:=iD hb9;go_frame)
            | (refine Y0 rfl 178 (.tmp 9) rfl wr.heap.size rfl 178 (Z9 x) hB9.out _ underlying178 rfl (Qh hf.out) ?_)
            | fail)
          have hS9:=hst2.out.calm hb9.out;refine (Zla x hf.out n1.out n2.out n3 _ us w.heap.size w9 hS9.row hS9.size (by omega)).mono ?_;rintro e w10 ⟨V,rfl,hr10,hb10,hk10⟩;have hS10:=iD (hS9.next hr10 hb10 hk10);clear hr10 hb10 hk10 hS9;go_wp2_with fail;refine⟨⟨m+1,by omega,by go_num,?_⟩,by simp[intOf];omega⟩;rw[hfl.out,<-lF,<-hus.out];exact hS10.out
        · have hmt:m=ops.length:=by omega
          subst hmt;rw[nJ] at hus;have he:us=enc:=by rw[hus,hy8.out,hy7.out,hy5.out,hzs.out,hfin.out]
          rw[he] at hst2;replace hus:=iD hus;replace he:=iD he;have hr2:=iD hst2.row;have hb2:=iD hst2.below;clear hst2;go_wp2_with fail;go_returns;rw[he.out];exact⟨_,rfl,hr2.out,hb2.out⟩
end
section
set_option maxRecDepth 100000
set_option maxHeartbeats 4000000
open Go.Lib renaming hid → iD
open Go.Proofs.Tryz
open Go.RowKit
def idC(c:PCom):Str:=Ge (Q7 c)
theorem Q0(c:PCom):(idC c).length=32:=rfl
theorem Z6j{c:PCom}(hf:ComFit c)(hm:MayOk c):(Q7 c).length<=125000:=by
 have h1:=Zbe hf.par.ok;have h2:(c.ops.flatMap opS).length<=60*c.ops.length:=Zbd (fun x hx=>by
  obtain⟨i,hi,rfl⟩:=nL hx;exact Zbc (hf.ops.ok _ (lH _)).com (op_n hm.ops (hm.right i hi) (lG hi)).2.2.1)
 have h3:=nmOk_len' hm.author;have h4:=Z38 (s:=c.author) (by omega);have h5:=hm.note;have h6:=Z38 (s:=c.note) (by omega);have h7:=hm.par;have h8:(Zp c.parents.length).length<=10:=Gl (by omega);have h9:=hm.ops;have h10:(Zp c.ops.length).length<=10:=Gl (by omega);unfold Q7;simp only[lA];omega
theorem Z6k(c:PCom)(cs:List Value)(ok:Nat->Prop)(w:World)(h:Y8 w ok cs c)(hf:ComFit c)(hm:MayOk c)(hK:Y9 w) :
  Calls lI 92 #[.agg cs.toArray] w fun e w'=>e=.returned (.tuple #[.agg ((idC c).map B).toArray,.int .i64 0])/\Below w.heap.size w w':=by
 have hel:=Z6j hf hm;have hen:=iD (fun W (hb:Below w.heap.size w W)=>Zbf c cs ok W (h.stayB hb) hf hm);obtain⟨p,o,rfl,hP,hO⟩:=h;obtain⟨PA,pc,rfl,_,_⟩:=hP;obtain⟨OA,oc,rfl,_,_⟩:=hO;unfold idC;obtain⟨xs,hxs⟩:∃ xs,xs=Q7 c:=⟨_,rfl⟩;rw[<-hxs] at hen hel ⊢;replace hxs:=iD hxs;have hKb:=iD (fun W (hb:Below w.heap.size w W)=>keys_below hK hb);clear hK hf hm;obtain⟨ds,hds⟩:∃ ds,ds=Ge xs:=⟨_,rfl⟩;rw[<-hds];have hdl':ds.length=32:=by rw[hds];rfl
 replace hds:=iD hds;unfold Z0 at hen ⊢;go_enter func92,ntmps92;go_wp2_with fail;generalize hW1:lY (lY w _) (l7 _ 47)=w1;have hb1:Below w.heap.size w w1:=by rw[<-hW1];exact bL.alloc (by simp) _
 have hR1:Blk w1 (w.heap.size+1) 47 Z3:=by rw[<-hW1];exact Blk.new_at (cs:=Z3) (by simp)
 have hs1:w.heap.size+1<=w1.heap.size:=by rw[<-hW1];simp
 clear hW1;refine (hen.out _ hb1).mono ?_;rintro e w2 ⟨V,rfl,hr2,hb2⟩;obtain⟨GA,gc,rfl,hgc,_⟩:=Z6 hr2;have hR2:=hR1.below hb2 hR1.lt;have hb2':=hb1.trans (hb2.mono hb1.size);have hs2:=hb2.size;have hrd:Rd w2 (· < w2.heap.size) GA (xs.map B):=(Ua hr2).weak (fun b hb _=>hb);have hsum:=Zae xs GA gc w2 hrd hgc (by omega) (hKb.out _ hb2');clear hr2 hb2 hR1 hb1;replace hb2':=iD hb2';replace hR2:=iD hR2;rw[<-hds.out] at hsum;replace hsum:=iD hsum;go_wp2_with fail;refine hsum.out.mono ?_;rintro e w3 ⟨rfl,hb3⟩;have hR3:=iD (hR2.out.below hb3 hR2.out.lt);have hb3':=iD (hb2'.out.trans (hb3.mono hb2'.out.size));clear hb3;go_wp2_with (first | (refine Zo rfl 47 (.tmp 2) (.tmp 16) rfl (w.heap.size+1) (ds.map B) rfl rfl 47 Z3 hR3.out (by simp[hdl',Z3]) (Za hdl') (Yk _) ?_) | fail);exact Ub rfl (w.heap.size+1) 47 (ds.map B) _ (.int .i64 0) rfl rfl (hR3.out.setRow_same _) underlying47 rfl (Za hdl') rfl ⟨rfl,below_setRow hb3'.out (by omega) _⟩
end
section
open Go.RowKit
open Go.Maps Go.MapKept Go.ChangeMaps
abbrev ndP(b:Nat):Value:=.pointer (some ⟨b,0,none⟩)
def byL(ps:Nat->Nat)(T:FT):List (Value × Value):=(List.range (T.nodes.length - 1)).map fun i=>(Zl (Ya T (i+1)),ndP (ps (i+1)))
def Ql(T:FT):List (Value × Value):=T.added.map fun p=>(.agg (p.1.map B).toArray,.int .i64 p.2)
structure TreeM (w:World) (base tb mb ab:Nat) (ps:Nat->Nat) (V:Nat->Bool->Value) (T:FT):Prop where
 lo:base<=tb/\base<=mb/\base<=ab/\mb ≠ ab
 low:∀ k,k<T.nodes.length->base<=ps k
 tree:Blk w tb 245 (Jl (ps 0) mb ab T.seen)
 by_:Yn w mb (byL ps T)
 added:Yn w ab (Ql T)
 node:∀ k nd,T.nodes[k]?=some nd->Blk w (ps k) 235 (Zf nd.name nd.b nd.gone (V k true) (V k false))
 row:∀ k nd s,T.nodes[k]?=some nd->w.ownsRow base 233 1 (V k s) (Zd nd s).length (Y5 ((Zd nd s).map ps))
 sep:∀ k s k' s' g,k<T.nodes.length->k'<T.nodes.length->(V k s).ownBlock=some g->(V k' s').ownBlock=some g->k=k'/\s=s'
theorem Xq{w:World}{base:Nat}{v:Value}{n:Nat}{xs:List Value}(h:w.ownsRow base 233 1 v n xs){g:Nat}(hg:v.ownBlock=some g):∃ cs,Blk w g 233 cs:=by
 rcases h.2 with ⟨rfl,_⟩ | ⟨g',cap,cur,rfl,_,hB,_⟩
 ·cases hg
 ·obtain rfl:g'=g:=by simpa[Value.ownBlock] using hg
  exact⟨cur.toList,by unfold Blk;simpa using hB⟩
theorem Yn.ne_blk{w:World}{b g:Nat}{es:List (Value × Value)}{t:TypeId}{cs:List Value}(h:Yn w b es)(hB:Blk w g t cs):g ≠ b:=h.v.ne_blk hB
theorem Yn.touch{L:List Nat}{w w':World}{b:Nat}{es:List (Value × Value)}(h:Yn w b es)(ht:Touch L w w')(hn:b ∉ L):Yn w' b es:=h.block (ht.block _ h.lt hn)
theorem TreeM.calm{w w':World}{base tb mb ab:Nat}{ps:Nat->Nat}{V:Nat->Bool->Value}{T:FT}(h:TreeM w base tb mb ab ps V T)(hb:Below w.heap.size w w'):TreeM w' base tb mb ab ps V T :=
 ⟨h.lo,h.low,h.tree.below hb h.tree.lt,h.by_.below hb h.by_.lt,h.added.below hb h.added.lt,fun k nd hk=>(h.node k nd hk).below hb (h.node k nd hk).lt,fun k nd s hk=>Zk (h.row k nd s hk) (Touch.ofBelow (L:=[]) hb) (fun _ _ hm=>by cases hm),h.sep⟩
theorem TreeM.drewN{w:World}{base tb mb ab:Nat}{ps:Nat->Nat}{V:Nat->Bool->Value}{T:FT}(h:TreeM w base tb mb ab ps V T)(n:Nat):TreeM (w.drewN n) base tb mb ab ps V T:=h.calm ((Touch.drewN (L:=[]) n).below (lE _) (fun _ hi=>by cases hi))
theorem TreeM.inj{w:World}{base tb mb ab:Nat}{ps:Nat->Nat}{V:Nat->Bool->Value}{T:FT}(h:TreeM w base tb mb ab ps V T)(hT:FTok T){i j:Nat}(hi:i<T.nodes.length)(hj:j<T.nodes.length)(he:ps i=ps j):i=j:=by
 have h1:=lG hi;have h2:=lG hj;have h3:=h.node i _ h1;have h4:=h.node j _ h2;rw[he] at h3;refine hT.inj i j _ _ h1 h2 (Z97 ?_ (hT.com h1).1 (hT.com h2).1);have h5:Zf T.nodes[i].name T.nodes[i].b T.nodes[i].gone (V i true) (V i false)=Zf T.nodes[j].name T.nodes[j].b T.nodes[j].gone (V j true) (V j false):=by
  have:=h3.symm.trans h4
  injection this with this
  injection this with this
  simpa using this
 unfold Zf at h5;exact (List.append_inj h5 (by simp[Z1,(hT.com h1).1,(hT.com h2).1])).1
theorem Z1w{ps:Nat->Nat}{T:FT}(hT:FTok T):∀ q ∈ byL ps T,Uh q.1:=fun q hq=>by
 obtain⟨i,hi,rfl⟩:=lO.1 hq;have hi:=lU.1 hi;have h1:T.nodes[i+1]?=some (T.nodes[i+1]'(by omega)):=lG (by omega);exact⟨Ya T (i+1),by unfold Ya;rw[h1];exact (hT.com h1).1,rfl⟩
theorem Z6n{ps:Nat->Nat}{T:FT}{k:Nat}{nd:FN}(hk:T.nodes[k]?=some nd)(h0:0<k):(Zl nd.name,ndP (ps k)) ∈ byL ps T:=by
 obtain⟨hl,_⟩:=lJ.1 hk;refine lO.2 ⟨k - 1,lU.2 (by omega),?_⟩;rw[show k - 1+1=k by omega];unfold Ya;rw[hk];rfl
theorem Z6o{ps:Nat->Nat}{T:FT}(hT:FTok T){k:Nat}{nd:FN}(hk:T.nodes[k]?=some nd):∀ q ∈ byL ps T,q.1=Zl nd.name->q.2=ndP (ps k):=fun q hq he=>by
 obtain⟨i,hi,rfl⟩:=lO.1 hq;have hi:=lU.1 hi;have h1:T.nodes[i+1]?=some (T.nodes[i+1]'(by omega)):=lG (by omega);have h2:Ya T (i+1)=(T.nodes[i+1]'(by omega)).name:=by unfold Ya;rw[h1];rfl
 dsimp only at he ⊢;rw[h2] at he;have h3:=(Z2u (hT.com h1).1 (hT.com hk).1).1 he;rw[hT.inj _ _ _ _ h1 hk h3]
theorem Z6p{T:FT}(hT:FTok T):∀ q ∈ Ql T,Ga q.1:=fun q hq=>by
 obtain⟨p,hp,rfl⟩:=lO.1 hq;exact⟨p.1,(hT.add p hp).1,rfl⟩
theorem Zbl{T:FT}{id:Str}(hn:∀ p ∈ T.added,p.1 ≠ id):∀ q ∈ Ql T,q.1 ≠ .agg (id.map B).toArray:=fun q hq he=>by
 obtain⟨p,hp,rfl⟩:=lO.1 hq;exact hn p hp (Z2t.1 he)
section
variable {w w':World} {base tb mb ab:Nat} {ps:Nat->Nat} {V:Nat->Bool->Value} {T:FT}
theorem TreeM.note(h:TreeM w base tb mb ab ps V T)(id:Str)(n:Nat)(ht:Touch [ab] w w')(hA:Yn w' ab (Ql T++[(.agg (id.map B).toArray,.int .i64 n)])):TreeM w' base tb mb ab ps V { T with added:=T.added++[(id,n)] }:=by
 refine⟨h.lo,h.low,h.tree.touch ht ?_,h.by_.touch ht ?_,?_,?_,?_,h.sep⟩
 ·simpa using h.added.ne_blk h.tree
 ·simpa using h.lo.2.2.2
 ·simpa[Ql] using hA
 ·intro k nd hk;exact (h.node k nd hk).touch ht (by simpa using h.added.ne_blk (h.node k nd hk))
 ·intro k nd s hk;refine Zk (h.row k nd s hk) ht (fun b hb hm=>?_);obtain⟨cs,hB⟩:=Xq (h.row k nd s hk) hb;exact h.added.ne_blk hB (by simpa using hm)
theorem TreeM.del(h:TreeM w base tb mb ab ps V T)(hT:FTok T){k:Nat}{nd:FN}(hk:T.nodes[k]?=some nd)(ht:Touch [tb,ps k] w w')
  (hB:Blk w' tb 245 (Jl (ps 0) mb ab (Jy T k nd).seen)) (hN:Blk w' (ps k) 235 (Zf nd.name nd.b true (V k true) (V k false))):TreeM w' base tb mb ab ps V (Jy T k nd):=by
 have hlen:(Jy T k nd).nodes.length=T.nodes.length:=Jb _ _ _;have hkl:k<T.nodes.length:=(lJ.1 hk).1;have hKN:=h.node k nd hk;refine⟨h.lo,fun j hj=>h.low j (by rw[hlen] at hj;exact hj),hB,?_,?_,?_,?_,fun a s b s' g ha hb=>h.sep a s b s' g (by rw[hlen] at ha;exact ha) (by rw[hlen] at hb;exact hb)⟩
 ·have e:byL ps (Jy T k nd)=byL ps T:=by
   unfold byL;rw[hlen];refine nA (fun i hi=>?_);have hi:=lU.1 hi;have : Ya (Jy T k nd) (i+1)=Ya T (i+1):=by
    unfold Ya;rw[show (Jy T k nd).nodes[i+1]?=if i+1=k then (T.nodes[i+1]?).map (fun y=>{ y with gone:=true }) else T.nodes[i+1]? from Vd _ _ _ _];split
    ·cases T.nodes[i+1]? <;> rfl
    ·rfl
   rw[this]
  rw[e];refine h.by_.touch ht ?_;have h1:=h.by_.ne_blk h.tree;have h2:=h.by_.ne_blk hKN;simp only[lZ,l0,or_false,not_or];exact⟨fun e=>h1 e.symm,fun e=>h2 e.symm⟩
 ·refine h.added.touch ht ?_;have h1:=h.added.ne_blk h.tree;have h2:=h.added.ne_blk hKN;simp only[lZ,l0,or_false,not_or];exact⟨fun e=>h1 e.symm,fun e=>h2 e.symm⟩
 ·intro j x hx;obtain⟨y,hy,e1,e2,e3,e4,e5⟩:=Vf hx;have hjl:j<T.nodes.length:=(lJ.1 hy).1;by_cases hj:j=k
  ·subst hj;rw[hk] at hy;obtain rfl:=nB hy;rw[e1,e4,e5];simpa using hN
  ·rw[e1,e4,e5,show (y.gone || j == k)=y.gone by simp[hj]];refine (h.node j y hy).touch ht ?_;simp only[lZ,l0,or_false,not_or];exact⟨(h.node j y hy).ne_ h.tree (by decide),fun e=>hj (h.inj hT hjl hkl e)⟩
 ·intro j x s hx;obtain⟨y,hy,e1,e2,e3,e4,e5⟩:=Vf hx;have : Zd x s=Zd y s:=by cases s <;> simp[Zd,e2,e3]
  rw[this];refine Zk (h.row j y s hy) ht (fun b hb hm=>?_);obtain⟨cs,hBr⟩:=Xq (h.row j y s hy) hb;simp only[lZ,l0,or_false] at hm;rcases hm with e | e
  ·exact hBr.ne_ h.tree (by decide) e
  ·exact hBr.ne_ hKN (by decide) e
def Vh(V:Nat->Bool->Value)(k:Nat)(left:Bool)(v:Value)(m:Nat):Nat->Bool->Value:=fun j s=>if j=m then Z2 else if j=k/\s=left then v else V j s
theorem TreeM.ins(h:TreeM w base tb mb ab ps V T)(hT:FTok T){k:Nat}{nd:FN}(hk:T.nodes[k]?=some nd)(left:Bool)(ks:List Nat)(_hks:∀ c ∈ ks,c<=T.nodes.length)(nm:PRef)(b:UInt8)(N:Nat)(v:Value)
  (ht:Touch (tb :: mb :: ps k :: (V k left).ownBlock.toList) w w') (hb0:base<=w.heap.size)
  (hB:Blk w' tb 245 (Jl (ps 0) mb ab (T.seen+1))) (hM:Yn w' mb (byL ps T++[(Zl nm,ndP N)])) (hP:Blk w' (ps k) 235 (Zf nd.name nd.b nd.gone (if left then v else V k true) (if left then V k false else v)))
  (hN:Blk w' N 235 (Zf nm b false Z2 Z2)) (hNl:w.heap.size<=N) (hr:w'.ownsRow base 233 1 v ks.length (Y5 (ks.map fun j=>if j=T.nodes.length then N else ps j)))
  (hv:v.ownBlock=(V k left).ownBlock ∨ ∀ g,v.ownBlock=some g->w.heap.size<=g) :
  TreeM w' base tb mb ab (fun j=>if j=T.nodes.length then N else ps j) (Vh V k left v T.nodes.length) (Jo T k left ks nm b):=by
 have hlen:=Z3n T k left ks nm b;have hkl:k<T.nodes.length:=(lJ.1 hk).1;have hKN:=h.node k nd hk;have h0l:0<T.nodes.length:=by omega
 have hnl:∀ g,(V k left).ownBlock=some g->∃ cs,Blk w g 233 cs:=fun g hg=>Xq (h.row k nd left hk) hg;have hmem:∀ i,i ∈ tb :: mb :: ps k :: (V k left).ownBlock.toList ↔ i=tb ∨ i=mb ∨ i=ps k ∨ (V k left).ownBlock=some i:=fun i=>by
  simp[Option.mem_toList]
 have hblk:∀ j y s g,T.nodes[j]?=some y->(V j s).ownBlock=some g->g<w.heap.size:=fun j y s g hy hg=>by
  obtain⟨cs,hB⟩:=Xq (h.row j y s hy) hg;exact hB.lt
 refine⟨h.lo,?_,?_,?_,?_,?_,?_,?_⟩
 ·intro j hj;rw[hlen] at hj;split
  ·omega
  ·exact h.low j (by omega)
 ·rw[if_neg (by omega)];exact hB
 ·have e:byL (fun j=>if j=T.nodes.length then N else ps j) (Jo T k left ks nm b)=byL ps T++[(Zl nm,ndP N)]:=by
   unfold byL;rw[hlen,show T.nodes.length+1 - 1=(T.nodes.length - 1)+1 by omega,List.range_succ,lT]
   congr 1
   ·refine nA (fun i hi=>?_);have hi:=lU.1 hi;have : Ya (Jo T k left ks nm b) (i+1)=Ya T (i+1):=by
     unfold Ya Jo;dsimp only;rw[l6 (by rw[Jb];omega),Vd];split
     ·cases T.nodes[i+1]? with
      | none=>rfl
      | some y=>simp[(Ve left ks y).1]
     ·rfl
    rw[this];dsimp only;rw[if_neg (by omega)]
   ·simp only[lM,lN];rw[show T.nodes.length - 1+1=T.nodes.length by omega,if_pos rfl];have : Ya (Jo T k left ks nm b) T.nodes.length=nm:=by
     unfold Ya Jo;dsimp only;rw[nC (by rw[Jb];exact lE _),Jb,Nat.sub_self];rfl
    rw[this]
  rw[e];exact hM
 ·refine h.added.touch ht ?_;rw[hmem];have h1:=h.added.ne_blk h.tree;have h2:=h.added.ne_blk hKN;rintro (e | e | e | e)
  ·exact h1 e.symm
  ·exact h.lo.2.2.2 e.symm
  ·exact h2 e.symm
  ·obtain⟨cs,hBg⟩:=hnl _ e;exact h.added.ne_blk hBg rfl
 ·intro j x hx;rcases Vg hx with ⟨rfl,rfl⟩ | ⟨hj,y,hy,rfl⟩
  ·simp only[Vh,if_true];exact hN
  ·have hjm:¬ j=T.nodes.length:=by omega
   by_cases hjk:j=k
   ·subst hjk;rw[hk] at hy;obtain rfl:=nB hy;simp only[Vh,if_neg hjm,if_true,(Ve _ _ _).1,(Ve _ _ _).2.1,(Ve _ _ _).2.2];cases left <;> simpa using hP
   ·simp only[Vh,if_neg hjm,hjk,false_and,if_false];refine (h.node j y hy).touch ht ?_;rw[hmem];rintro (e | e | e | e)
    ·exact (h.node j y hy).ne_ h.tree (by decide) e
    ·exact h.by_.ne_blk (h.node j y hy) e
    ·exact hjk (h.inj hT hj hkl e)
    ·obtain⟨cs,hBg⟩:=hnl _ e;exact hBg.ne_ (h.node j y hy) (by decide) rfl
 ·intro j x s hx;rcases Vg hx with ⟨rfl,rfl⟩ | ⟨hj,y,hy,rfl⟩
  ·simp only[Vh,if_true];cases s <;> exact⟨rfl,.inl ⟨rfl,rfl⟩⟩
  ·have hjm:¬ j=T.nodes.length:=by omega
   have hold:∀ s',(∀ c ∈ Zd y s',c<T.nodes.length):=fun s' c hc=>(hT.kids j y s' c hy hc).2;have hmap:∀ s',(Zd y s').map (fun j=>if j=T.nodes.length then N else ps j)=(Zd y s').map ps:=fun s'=>nA (fun c hc=>if_neg (by have:=hold s' c hc;omega));by_cases hjk:j=k/\s=left
   ·obtain⟨rfl,rfl⟩:=hjk;rw[hk] at hy;obtain rfl:=nB hy;simp only[Vh,if_neg hjm,if_true,and_self,Z0h];exact hr
   ·have e1:Zd (if j=k then Ko left ks y else y) s=Zd y s:=by
     split
     ·next e =>
      rw[Z0h,if_neg (fun es=>hjk ⟨e,es⟩)]
     ·rfl
    rw[e1];simp only[Vh,if_neg hjm,if_neg hjk];rw[hmap];refine Zk (h.row j y s hy) ht (fun g hg hm=>?_);obtain⟨cs,hBg⟩:=Xq (h.row j y s hy) hg;rcases (hmem g).1 hm with e | e | e | e
    ·exact hBg.ne_ h.tree (by decide) e
    ·exact h.by_.ne_blk hBg e
    ·exact hBg.ne_ hKN (by decide) e
    ·exact hjk (h.sep j s k left g hj hkl hg e)
 ·have key:∀ j s g,j<T.nodes.length+1->(Vh V k left v T.nodes.length j s).ownBlock=some g->j<T.nodes.length/\((j=k/\s=left/\v.ownBlock=some g) ∨ (¬ (j=k/\s=left)/\(V j s).ownBlock=some g)):=fun j s g hj hg=>by
   unfold Vh at hg;by_cases h1:j=T.nodes.length
   ·rw[if_pos h1] at hg;cases hg
   ·rw[if_neg h1] at hg;refine⟨by omega,?_⟩;by_cases h2:j=k/\s=left
    ·rw[if_pos h2] at hg;exact .inl ⟨h2.1,h2.2,hg⟩
    ·rw[if_neg h2] at hg;exact .inr ⟨h2,hg⟩
  have hvo:∀ j s g,j<T.nodes.length->v.ownBlock=some g->(V j s).ownBlock=some g->j=k/\s=left:=fun j s g hj hg hg'=>by
   rcases hv with e | e
   ·exact h.sep j s k left g hj hkl hg' (by rw[<-e];exact hg)
   ·have h1:=e g hg;have h2:=hblk j _ s g (lG hj) hg';omega
  intro j s j' s' g hj hj' hg hg';rw[hlen] at hj hj';obtain⟨l1,c1⟩:=key j s g hj hg;obtain⟨l2,c2⟩:=key j' s' g hj' hg';rcases c1 with ⟨e1,e2,e3⟩ | ⟨n1,e3⟩ <;> rcases c2 with ⟨f1,f2,f3⟩ | ⟨n2,f3⟩
  ·exact⟨by omega,by rw[e2,f2]⟩
  ·exact absurd (hvo j' s' g l2 e3 f3) n2
  ·exact absurd (hvo j s g l1 f3 e3) n1
  ·exact h.sep j s j' s' g l1 l2 e3 f3
end
end
section
set_option maxRecDepth 100000
set_option maxHeartbeats 8000000
open Go.Lib renaming hid → iD
open Go.Proofs.Tryz
open Go.RowKit
theorem Zlm(T:FT)(hTk:FTok T)(l:List POp)(id:Str)(ho:OpsOk T id l)(base tb mb ab:Nat)(ps:Nat->Nat)(V:Nat->Bool->Value)(o:Value)(ok:Nat->Prop)(w:World)(hT:TreeM w base tb mb ab ps V T)(h:Xu w ok o l) :
    Calls lI 156 #[.pointer (some ⟨tb,0,none⟩),.agg (id.map B).toArray,o] w fun e w'=>e=.returned (.int .i64 0)/\Below w.heap.size w w':=by
  have hid:=ho.idl;have hll:=ho.len;have hroom:=ho.room;have hn0:0<T.nodes.length:=by
    obtain⟨r,h1,_⟩:=hTk.root;exact (lJ.1 h1).1
  have hbl:(byL ps T).length=T.nodes.length - 1:=by unfold byL;simp
  obtain⟨OA,oc,rfl,hoc,hor⟩:=h;have hO:Hid (Xu w ok (.slice OA l.length oc) l):=iD ⟨OA,oc,rfl,hoc,hor⟩;clear hor hoc;generalize hW1:(w.alloc (.cells (id.map B).toArray 47))=w1;have hb1:Below w.heap.size w w1:=by rw[<-hW1];exact bL
  have hI:Blk w1 w.heap.size 47 (id.map B):=by rw[<-hW1];exact Blk.new_at (cs:=id.map B) rfl
  have hT1:=hT.calm hb1;have c2:w1.cell? ⟨tb,2,none⟩=some (.map (some ab)):=hT1.tree.cell 2;have hrun:Hid (∀ w',(∃ n,w'=w1.drewN n)->(nM 26 (.map (some ab)) (.agg (id.map B).toArray) true).run lI w'=.ok (.tuple #[.int .i64 0,.bool false]) w'):=iD (by
    rintro _ ⟨n,rfl⟩;have hA2:Zg (w1.drewN n) ab (Ql T):=hT1.added.v.block rfl;exact hA2.look_none Xz underlying26 (by kernel_rfl) (Z6p hTk) ⟨id,hid,rfl⟩ (Zbl ho.new) true)
  have hI3:Hid (∀ w',(∃ n,w'=w1.drewN n)->Blk w' w.heap.size 47 (id.map B)):=iD (by rintro _ ⟨n,rfl⟩;exact hI.drewN n);have hTb:=iD (fun W (hb:Below w1.heap.size w1 W)=>hT1.calm hb);have hb1':=iD hb1;replace hTk:=iD hTk;replace ho:=iD ho;clear hT hT1 hI hb1;go_enter func156,ntmps156;go_wp2_with fail;refine l3 (by kernel_rfl) (by kernel_rfl) ?_;repeat (first
    | go_big_quiet_step (fail)
    | (refine Yf 47 (.tmp 4) rfl rfl w.heap.size 0 rfl 47 (id.map B) (id.map B) [] hI3.out (by simp) _ underlying47 rfl (Za hid) ?_;go_frame)
    | (refine Yp (.lookup 26 (.tmp 19) (.tmp 20) true) rfl rfl (.tuple #[.int .i64 0,.bool false]) (fun w' hw'=>Jk 26 (.tmp 19) (.tmp 20) true rfl _ _ _ rfl rfl (hrun.out w' hw')) ?_;go_frame))
  refine lD ?_;rintro _ ⟨nq,rfl⟩;have hb2:=iD (hb1'.out.trans ((Touch.drewN (w:=w1) (L:=[]) nq).below hb1'.out.size (fun _ hi=>by cases hi)));have hb12:=iD ((Touch.drewN (w:=w1) (L:=[]) nq).below (lE _) (fun _ hi=>by cases hi));generalize w1.drewN nq=w2 at hb2 hb12 ⊢;clear hrun hI3 c2;go_wp2_with fail;go_loopw [9,27] (fun n i wr=>∃ m q:Nat,m<=l.length/\q<=m/\n=.int .i64 q/\i=.int .i64 m/\Below w2.heap.size w2 wr) (fun _ i _=>l.length - (intOf i).toNat)
  case atStart=>exact⟨0,0,lQ _,lQ _,rfl,rfl,lB _ _⟩
  case round =>
    obtain⟨m,q,hm,hqm,rfl,rfl,hbr⟩:=hrel;by_cases hlt:m<l.length
    · have hOr:=hO.out.stayB (hb2.out.trans (hbr.mono hb2.out.size))
      obtain⟨b,o,rfl,_,hbl',hcells⟩:=hOr.op ho.out.fit.ok m hlt;have hkd:=Z0i (Ut (ho.out.right m hlt) (lG hlt)).2.1;have hf:=ho.out.fit.ok _ (lH hlt);obtain⟨x,hx⟩:∃ x,x=l[m]:=⟨_,rfl⟩;rw[<-hx] at hcells hkd hf;have i1:(0:Int)<=(m:Int):=by omega
      have i2:(m:Int)<(l.length:Int):=by omega
      replace hcells:=iD hcells;replace hx:=iD hx;replace hbr:=iD hbr;replace hkd:=iD hkd;replace hf:=iD hf;clear hOr hO hTb;go_wp2_with (first
        | (refine lR rfl 178 (.tmp 29) rfl b (o+m*37) rfl (Z9 x) _ (fun j v hv=>hcells.out j v hv) underlying178 rfl (Qh hf.out) ?_)
        | (refine Zo rfl 178 (.tmp 11) (.tmp 30) rfl wr.heap.size (Z9 x) rfl rfl 178 Jt (Blk.new_at rfl) (by rw[Ug hf.out];rfl) (Qh hf.out) (Uj _) ?_
           generalize hw1:lS _ wr.heap.size (Z9 x).toArray=w9;have hB9:Blk w9 wr.heap.size 178 (Z9 x):=by
             rw[<-hw1];exact (Blk.new_at (w:=wr) (t:=178) (cs:=Jt) rfl).setRow_same (Z9 x)
           have hb9:Below wr.heap.size wr w9:=by
             rw[<-hw1];exact below_setRow ((lB wr.heap.size wr).alloc (lE _) (.cells Jt.toArray 178)) (lE _) (Z9 x).toArray
           clear hw1;have q0:w9.cell? ⟨wr.heap.size,0,none⟩=some (.int .i64 x.kind):=hB9.cell 0;replace hB9:=iD hB9;replace hb9:=iD hb9;rcases hkd.out with ⟨hk1,_⟩ | ⟨hk2,_⟩
           · rw[hk1] at q0
             go_wp2_with fail;refine⟨⟨m+1,q+1,by omega,by omega,by go_num,by go_num,hbr.out.trans (hb9.out.mono hbr.out.size)⟩,by simp[intOf];omega⟩
           · rw[hk2] at q0
             go_wp2_with fail;refine⟨⟨m+1,q,by omega,by omega,rfl,by go_num,hbr.out.trans (hb9.out.mono hbr.out.size)⟩,by simp[intOf];omega⟩)
        | fail)
    · have hmt:m=l.length:=by omega
      subst hmt;replace hbr:=iD hbr;have hTr:=hTb.out wr (hb12.out.trans (hbr.out.mono hb12.out.size));have c1:wr.cell? ⟨tb,1,none⟩=some (.map (some mb)):=hTr.tree.cell 1;have g1:decide ((2000:Int)<(l.length:Int))=false:=decide_eq_false (by omega);have hlen:∀ ty,(Builtin.len_ #[243] ty #[.map (some mb)]).run lI wr=.ok (.int .i64 ((T.nodes.length - 1:Nat):Int)) wr:=fun ty=>by
        rw[<-hbl];exact hTr.by_.v.len underlying243 ty
      have g3:lL.wrap ((400000:Int) - ((T.nodes.length - 1:Nat):Int))=(400000:Int) - ((T.nodes.length - 1:Nat):Int):=l4 _ (by omega);have g2:decide ((400000:Int) - ((T.nodes.length - 1:Nat):Int)<(q:Int))=false:=decide_eq_false (by omega);clear hTr;go_wp2_with fail;obtain⟨w3,hw3⟩:∃ w3:World,w3=wr:=⟨_,rfl⟩;rw[<-hw3] at hbr c1 hlen ⊢;have hb3:=iD (hb2.out.trans (hbr.out.mono hb2.out.size));have hb13:=iD (hb12.out.trans (hbr.out.mono hb12.out.size));clear hbr hw3 hlen c1 hb12;go_loopw [52] (fun i wr=>∃ m:Nat,m<=l.length/\i=.int .i64 m/\Below w3.heap.size w3 wr) (fun i _=>l.length - (intOf i).toNat)
      case atStart=>exact⟨0,lQ _,rfl,lB _ _⟩
      case round =>
        obtain⟨m,hm,rfl,hbr⟩:=hrel;by_cases hlt:m<l.length
        · have hOr:=hO.out.stayB (hb3.out.trans (hbr.mono hb3.out.size))
          obtain⟨b,o,rfl,_,hbl',hcells⟩:=hOr.op ho.out.fit.ok m hlt;have hrf:=Ut (ho.out.right m hlt) (lG hlt);have hf:=ho.out.fit.ok _ (lH hlt);have hfar:=ho.out.far _ (lH hlt);obtain⟨x,hx⟩:∃ x,x=l[m]:=⟨_,rfl⟩;rw[<-hx] at hcells hrf hf hfar;have i1:(0:Int)<=(m:Int):=by omega
          have i2:(m:Int)<(l.length:Int):=by omega
          have hri:=iD (fun W (hb:Below wr.heap.size wr W)=>Zbb l _ ok m W (hOr.stayB hb) ho.out.fit hlt (ho.out.right m hlt));replace hcells:=iD hcells;replace hx:=iD hx;replace hbr:=iD hbr;replace hrf:=iD hrf;replace hf:=iD hf;replace hfar:=iD hfar;clear hOr hO;go_wp2_with (first
            | (refine lR rfl 178 (.tmp 55) rfl b (o+m*37) rfl (Z9 x) _ (fun j v hv=>hcells.out j v hv) underlying178 rfl (Qh hf.out) ?_)
            | (refine Zo rfl 178 (.tmp 13) (.tmp 56) rfl wr.heap.size (Z9 x) rfl rfl 178 Jt (Blk.new_at rfl) (by rw[Ug hf.out];rfl) (Qh hf.out) (Uj _) ?_
               generalize hw1:lS _ wr.heap.size (Z9 x).toArray=w9;have hB9:Blk w9 wr.heap.size 178 (Z9 x):=by
                 rw[<-hw1];exact (Blk.new_at (w:=wr) (t:=178) (cs:=Jt) rfl).setRow_same (Z9 x)
               have hb9:Below wr.heap.size wr w9:=by
                 rw[<-hw1];exact below_setRow ((lB wr.heap.size wr).alloc (lE _) (.cells Jt.toArray 178)) (lE _) (Z9 x).toArray
               clear hw1;replace hB9:=iD hB9;replace hb9:=iD hb9;go_frame)
            | fail)
          refine (hri.out _ hb9.out).mono ?_;rintro e w10 ⟨rfl,hb10⟩;have hB10:=hB9.out.below hb10 hB9.out.lt;have hbr10:=iD (hbr.out.trans ((hb9.out.mono hbr.out.size).trans (hb10.mono (lC hbr.out.size hb9.out.size))));have hT10:=hTb.out w10 (hb13.out.trans (hbr10.out.mono hb13.out.size));have c1:w10.cell? ⟨tb,1,none⟩=some (.map (some mb)):=hT10.tree.cell 1;clear hri hb10;have hB3:Hid (∀ w',(∃ n,w'=w10.drewN n)->Blk w' wr.heap.size 178 (Z9 x)):=iD (by rintro _ ⟨n,rfl⟩;exact hB10.drewN n);have hsr:=iD (Xe (r:=x.at_) hf.out.com);have p2:w10.cell? ⟨wr.heap.size,2,none⟩=some (.bool x.at_.own):=(Jj hB10 hf.out).2.2.1;have hby:=iD hT10.by_.v;clear hT10;have hneq:(!(x.at_.own == Z8.own && (x.at_.com == Z8.com && x.at_.n == Z8.n))) = !U6 x.at_ Z8:=by simp[U6,Bool.and_assoc]
          by_cases hm0:x.at_=Z8
          · have hne:(!(x.at_.own == Z8.own && (x.at_.com == Z8.com && x.at_.n == Z8.n)))=false:=by
              rw[hneq,Z0g.2 hm0];rfl
            go_wp2_with fail;refine l3 (by kernel_rfl) (by kernel_rfl) ?_;repeat (first
              | go_big_quiet_step (fail)
              | (refine Yf 158 (.tmp 64) rfl rfl wr.heap.size 2 rfl 178 (Z9 x) (Z1 x.at_) [B x.byte] hB3.out rfl _ underlying158 rfl hsr.out ?_;go_frame)
              | (refine Yp (.binOp .neq 158 (.tmp 65) (.tmp 66) 158) rfl rfl (.bool false) (fun w' _=>(Z5v w' rfl x.at_ Z8 rfl rfl hf.out.com rfl).trans (by rw[hne])) ?_;go_frame))
            refine lD ?_;rintro _ ⟨nq2,rfl⟩;have hbf:=hbr10.out.trans ((Touch.drewN (L:=[]) nq2).below hbr10.out.size (fun _ hi=>by cases hi));go_wp2_with fail;refine⟨⟨m+1,by omega,by go_num,hbf⟩,by simp[intOf];omega⟩
          · have hne:(!(x.at_.own == Z8.own && (x.at_.com == Z8.com && x.at_.n == Z8.n)))=true:=by
              rw[hneq];cases hq:U6 x.at_ Z8 with
              | false=>rfl
              | true=>exact absurd (Z0g.1 hq) hm0
            cases hw:x.at_.own with
            | true =>
              rw[hw] at p2;go_wp2_with fail;refine l3 (by kernel_rfl) (by kernel_rfl) ?_;repeat (first
                | go_big_quiet_step (fail)
                | (refine Yf 158 (.tmp 64) rfl rfl wr.heap.size 2 rfl 178 (Z9 x) (Z1 x.at_) [B x.byte] hB3.out rfl _ underlying158 rfl hsr.out ?_;go_frame)
                | (refine Yp (.binOp .neq 158 (.tmp 65) (.tmp 66) 158) rfl rfl (.bool true) (fun w' _=>(Z5v w' rfl x.at_ Z8 rfl rfl hf.out.com rfl).trans (by rw[hne])) ?_;go_frame))
              refine lD ?_;rintro _ ⟨nq2,rfl⟩;have hbf:=hbr10.out.trans ((Touch.drewN (L:=[]) nq2).below hbr10.out.size (fun _ hi=>by cases hi));go_wp2_with fail;refine⟨⟨m+1,by omega,by go_num,hbf⟩,by simp[intOf];omega⟩
            | false =>
              rw[hw] at p2;obtain⟨k,nd,hk0,hkn,hkm⟩:=hfar.out hw hm0;have hrun:Hid (∀ w',(∃ n,w'=w10.drewN n)->(nM 243 (.map (some mb)) (Zl x.at_) false).run lI w'=.ok (.pointer (some ⟨ps k,0,none⟩)) w'):=iD (by
                rintro _ ⟨n,rfl⟩;have hM2:Zg (w10.drewN n) mb (byL ps T):=hby.out.block rfl;exact hM2.look_some Z04 underlying243 (Z1w hTk.out) ⟨x.at_,hf.out.com,rfl⟩ (by rw[<-hkm];exact Z6n hkn hk0) (by rw[<-hkm];exact Z6o hTk.out hkn) false)
              have hBc:Hid (∀ w',(∃ n,w'=w10.drewN n)->∀ j v,(Z1 x.at_)[j]?=some v->w'.cell? ⟨wr.heap.size,2+j,none⟩=some v):=iD (fun w' hw' j v hv=>by
                rw[(hB3.out w' hw').cell];have e:(Z9 x)[2+j]?=(Z1 x.at_++[B x.byte])[j]?:=by rw[Nat.add_comm];rfl
                rw[e,l6 (lJ.1 hv).1];exact hv)
              unfold Zl at hrun;go_wp2_with fail;refine l3 (by kernel_rfl) (by kernel_rfl) ?_;repeat (first
                | go_big_quiet_step (fail)
                | (refine Yf 158 (.tmp 64) rfl rfl wr.heap.size 2 rfl 178 (Z9 x) (Z1 x.at_) [B x.byte] hB3.out rfl _ underlying158 rfl hsr.out ?_;go_frame)
                | (refine Vw 158 (.tmp 79) rfl rfl wr.heap.size 2 rfl (Z1 x.at_) hBc.out _ underlying158 rfl hsr.out ?_;go_frame)
                | (refine Z2n (.lookup 243 (.tmp 78) (.tmp 80) false) rfl rfl (.pointer (some ⟨ps k,0,none⟩)) (fun w' hw'=>Jk 243 (.tmp 78) (.tmp 80) false rfl _ _ _ rfl rfl (hrun.out w' hw')) ?_;go_frame)
                | (refine Yp (.binOp .neq 158 (.tmp 65) (.tmp 66) 158) rfl rfl (.bool true) (fun w' _=>(Z5v w' rfl x.at_ Z8 rfl rfl hf.out.com rfl).trans (by rw[hne])) ?_;go_frame))
              refine lD ?_;rintro _ ⟨nq2,rfl⟩;have hbf:=hbr10.out.trans ((Touch.drewN (L:=[]) nq2).below hbr10.out.size (fun _ hi=>by cases hi));go_wp2_with fail;refine⟨⟨m+1,by omega,by go_num,hbf⟩,by simp[intOf];omega⟩
        · have hmt:m=l.length:=by omega
          subst hmt;go_wp2_with fail;go_returns;exact⟨rfl,hb3.out.trans (hbr.mono hb3.out.size)⟩
end
end Go.Proofs.YtfdimggmljkkbaaGreatDoor
