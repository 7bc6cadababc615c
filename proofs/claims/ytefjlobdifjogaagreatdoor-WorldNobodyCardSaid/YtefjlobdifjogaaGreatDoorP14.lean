import Derived.Test.YtefjlobdifjogaaGreatDoorP13
import Derived.Maps.Range
open Array renaming toList_filter → lP, getElem?_eq_some_iff → nC
open Go renaming rounds_succ → lB, wp_loop_rounds → lE, wpQuiet_nil → lF, results_none → lG, bodyPost_end → lH, bodyPost_ret → lW
open Go.Instr renaming lookup → lU, buildSlice → l4, mapUpdate → nB, next → nE
open Go.Obj renaming cells → lS
open Go.Proofs.Tryz renaming prog → lA
open Go.Result renaming andThen → lN
open Go.RowKit renaming run_makeMap → lY
open Go.RowKit.Below renaming refl → lD, heap_alloc → lV
open Go.Value renaming oneCell' → l8
open Go.World renaming alloc → lK, alloc_heap_new → lM, block_lt_of_cell? → lR, setRow → lT, setCell → l7
open List renaming mem_singleton → lI, map_cons → lJ, map_nil → lL, mem_map → lO, nil_append → lQ, filter_eq_self → lZ, length_map → l5, length_pos_iff → l9, getElem?_eq_getElem → nA, map_append → nD, take_succ_cons → nF, take_zero → nG, drop_succ_cons → nH, drop_zero → nI
open Nat renaming le_refl → lC, le_trans → lX, zero_add → l6
namespace Go.Proofs.YtefjlobdifjogaaGreatDoor
section
set_option maxRecDepth 100000
set_option maxHeartbeats 8000000
open Go.Lib renaming hid → iD
open Go.Proofs.Tryz
open Go.RowKit
theorem Zin(w:World):Calls lA 223 #[Z0] w fun e w'=>e=.returned (.tuple #[])/\Below w.heap.size w w':=by
 go_enter func223,ntmps223;go_wp2_with fail;refine lE 1 ?_;rw[lB];go_wp2_with fail;exact lH (v:=.tuple #[]) (lG (by rfl) _ _ _) rfl ⟨rfl,lD _ _⟩
theorem Zio(A:Option Addr)(c:Nat)(w:World):Calls lA 223 #[.slice A 1 c] w fun e w'=>e=.returned (.tuple #[])/\Below w.heap.size w w':=by
 go_enter func223,ntmps223;go_wp2_with fail;refine lE 1 ?_;rw[lB];go_wp2_with fail;exact lH (v:=.tuple #[]) (lG (by rfl) _ _ _) rfl ⟨rfl,lD _ _⟩
theorem Z9c(r:Nat)(A:Option Addr)(c:Nat)(w:World)(c0:w.cell? ⟨r,0,none⟩=some Z0) :
  Calls lA 133 #[.pointer (some ⟨r,0,none⟩),.slice A 0 c] w fun e w'=>e=.returned (.tuple #[Z0,.bool true])/\Below w.heap.size w w':=by
 have hmk:=Z0c;have a0:∀ o,(w.alloc o).cell? ⟨r,0,none⟩=some Z0:=fun o=>(((lD w.heap.size w).alloc (lC _) o).cell (p:=⟨r,0,none⟩) (lR _ _ c0)).trans c0;go_enter func133,ntmps133;go_wp2_with fail;refine lE 1 ?_;rw[lB];go_wp2_with fail;refine lE 1 ?_;rw[lB];go_wp2_with fail;refine (Zin _).mono ?_;rintro e W ⟨rfl,hb⟩;have hbf:=((lD _ _).alloc (lC w.heap.size) (.cells #[] 4)).trans (hb.mono (by simp));go_wp2_with fail;go_returns;exact⟨rfl,hbf⟩
theorem Z4y:InfoOf lA 154 (.agg #[Z0,.string ⟨#[]⟩,.string ⟨#[]⟩,Z0]) 4 80:=⟨by kernel_rfl,rfl,by omega⟩
theorem Zip(ds a:Str)(hdl:ds.length=32)(OA:Option Addr)(on oc r by_ lb lc ib ic:Nat)(rest ri:List Value)(w:World)(c0:w.cell? ⟨r,0,none⟩=some (.slice (some ⟨lb,0,none⟩) 1 lc))(c1:w.cell? ⟨r,1,none⟩=some (.map (some by_)))
    (hM:Z8 w by_ [(.agg (ds.map B).toArray,.int .i64 0)]) (hL:Blk w lb 154 (Z5 a (.slice OA on oc)++rest)) (hI:Blk w ib 59 (ds.map B++ri)) :
    Calls lA 133 #[.pointer (some ⟨r,0,none⟩),.slice (some ⟨ib,0,none⟩) 1 ic] w fun e w'=>∃ ob ocp rs,e=.returned (.tuple #[.slice (some ⟨ob,0,none⟩) 1 ocp,.bool true])/\Blk w' ob 154 (Z5 a (.slice OA on oc)++rs)/\w.heap.size<=ob/\Below w.heap.size w w':=by
  have hmk:=O7;have hrl:=lR _ _ c0;go_enter func133,ntmps133;go_wp2_with fail;generalize hW1:lK w (lS _ 4)=w1;have hb1:Below w.heap.size w w1:=by rw[<-hW1];exact bL
  have hS1:Blk w1 w.heap.size 4 [.bool false]:=by rw[<-hW1];exact Blk.new_at (cs:=[.bool false]) rfl
  clear hW1 hmk;have hL1:=iD (hL.below hb1 hL.lt);have hI1:=iD (hI.below hb1 hI.lt);have hM1:=iD (hM.below hb1 hM.lt);have d0:=(hb1.cell (p:=⟨r,0,none⟩) hrl).trans c0;have d1:=(hb1.cell (p:=⟨r,1,none⟩) hrl).trans c1;replace d0:=iD d0;replace d1:=iD d1;replace hb1:=iD hb1;replace hS1:=iD hS1;clear hL hI hM c0 c1;refine lE 2 ?_;rw[lB];go_wp2_with (first
    | (refine Xj rfl 59 (.tmp 25) rfl ib 0 rfl 59 (ds.map B++ri) (ds.map B) ri hI1.out (by simp) _ underlying59 rfl (Zg hdl) ?_)
    | (refine Zd rfl 59 (.tmp 8) (.tmp 26) rfl w1.heap.size (ds.map B) rfl rfl 59 Z2 (Blk.new_at rfl) (by simp[hdl,Z2]) (Zg hdl) (Y5 _) ?_
       generalize hw1:lT _ w1.heap.size (ds.map B).toArray=w4;have hD4:Blk w4 w1.heap.size 59 (ds.map B):=by
         rw[<-hw1];exact (Blk.new_at (w:=w1) (t:=59) (cs:=Z2) rfl).setRow_same (ds.map B)
       have hb4:Below w1.heap.size w1 w4:=by
         rw[<-hw1];exact below_setRow ((lD w1.heap.size w1).alloc (lC _) (.cells Z2.toArray 59)) (lC _) (ds.map B).toArray
       clear hw1;go_frame)
    | fail)
  have hM4:=hM1.out.below hb4 hM1.out.lt;have hL4:=iD (hL1.out.below hb4 hL1.out.lt);have hS4:=iD (hS1.out.below hb4 hS1.out.lt);have hrl1:r<w1.heap.size:=Nat.lt_of_lt_of_le hrl hb1.out.size;have e0:=iD ((hb4.cell (p:=⟨r,0,none⟩) hrl1).trans d0.out);have e1:w4.cell? ⟨r,1,none⟩=some (.map (some by_)):=(hb4.cell (p:=⟨r,1,none⟩) hrl1).trans d1.out;have hb4':=iD (hb1.out.trans (hb4.mono hb1.out.size));have hD5:Hid (∀ w',(∃ n,w'=w4.drewN n)->Blk w' w1.heap.size 59 (ds.map B)):=iD (by rintro _ ⟨n,rfl⟩;exact hD4.drewN n);have hrun:Hid (∀ w',(∃ n,w'=w4.drewN n)->(lU 41 (.map (some by_)) (.agg (ds.map B).toArray) true).run lA w'=.ok (.tuple #[.int .i64 0,.bool true]) w'):=iD (by
    rintro _ ⟨n,rfl⟩;have hM5:Z8 (w4.drewN n) by_ _:=hM4.block rfl;exact hM5.look_some Ja underlying41 (by simpa using Xs ds hdl) (Xs ds hdl) (lI.2 rfl) (by simp) true)
  clear hM1 hL1 hS1 hI1 hb4 hD4 hM4 d0 d1 hb1;refine wp_region_quiet_lit (by kernel_rfl) (by kernel_rfl) ?_;repeat (first
    | go_big_quiet_step (fail)
    | (refine Yq 59 (.tmp 8) rfl rfl w1.heap.size 0 rfl 59 (ds.map B) (ds.map B) [] hD5.out (by simp) _ underlying59 rfl (Zg hdl) ?_;go_frame)
    | (refine Zc (.lookup 41 (.tmp 31) (.tmp 32) true) rfl rfl (.tuple #[.int .i64 0,.bool true]) (fun w' hw'=>Kb 41 (.tmp 31) (.tmp 32) true rfl _ _ _ rfl rfl (hrun.out w' hw')) ?_;go_frame))
  refine lF ?_;rintro _ ⟨nq,rfl⟩;have hS5:=hS4.out.drewN nq;have s0:(w4.drewN nq).cell? ⟨w.heap.size,0,none⟩=some (.bool false):=hS5.cell 0;have sf:=hS5.frozen 0;have i0:(0:Int)<((1:Nat):Int):=by omega
  have hrne:r ≠ w.heap.size:=by omega
  have hws4:=hb4'.out.size;have hL6:=(hL4.out.drewN nq).far (p:=⟨w.heap.size,0,none⟩) ((hL4.out.drewN nq).ne_ hS5 (by decide)) (.bool true);have hS6:=hS5.set_ 0 (.bool true);have e06:((w4.drewN nq).setCell ⟨w.heap.size,0,none⟩ (.bool true)).cell? ⟨r,0,none⟩=some (.slice (some ⟨lb,0,none⟩) 1 lc):=(World.cell?_setCell_far _ _ _ _ (fun e=>hrne e.symm)).trans e0.out;have hb6:Below w.heap.size w ((w4.drewN nq).setCell ⟨w.heap.size,0,none⟩ (.bool true)):=(hb4'.out.trans ((Touch.drewN (L:=[]) nq).below hws4 (fun _ hi=>by cases hi))).setCell (lC _) _;clear hrun hD5 e1;go_wp2_with fail;rw[lB];generalize l7 (w4.drewN nq) _ _=w6 at hL6 hS6 e06 hb6 ⊢;have s6:w6.cell? ⟨w.heap.size,0,none⟩=some (.bool true):=hS6.cell 0;have l0:w6.cell? ⟨lb,0,none⟩=some Z0:=hL6.cell 0;have l1:w6.cell? ⟨lb,1,none⟩=some (.string ⟨a.toArray⟩):=hL6.cell 1;have l2:w6.cell? ⟨lb,2,none⟩=some (.string ⟨#[]⟩):=hL6.cell 2;have l3:w6.cell? ⟨lb,3,none⟩=some (.slice OA on oc):=hL6.cell 3;have hrl6:r<w6.heap.size:=lR _ _ e06;have hws6:=hb6.size;clear s0 sf hS5 hS6 e0;replace hb6:=iD hb6;replace hL6:=iD hL6;go_wp2_with fail;refine lE 2 ?_;rw[lB];go_wp2_with (at_builtin;refine Yt _ rfl (.tmp 57) (.tmp 65) 40 rfl w6.heap.size 154 _ 4 80 underlying40 Z4y Z0 0 [] rfl ⟨rfl,.inl ⟨rfl,rfl⟩⟩ (fun _=>True) (some ⟨w6.heap.size,0,none⟩) 1 1 (Z5 a (.slice OA on oc)) rfl rfl (Rd.of_blk (cs:=Z5 a (.slice OA on oc)) (r:=[]) (Blk.new_at rfl) rfl trivial) (by simp[Z5,l8]) (by unfold maxLen;omega) (by omega) (by simp) ?_;intro v7 w7 hrow7 hg7 hv7;obtain⟨ob,ocp,rs,rfl,hob,hO7⟩:=Ui hrow7;have hb7:Below w6.heap.size w6 w7:=bL.trans (Yo (v:=Z0) (n:=0) (xs:=[]) (e:=154) (size:=4) ⟨rfl,.inl ⟨rfl,rfl⟩⟩ hg7 (by simp));have e07:w7.cell? ⟨r,0,none⟩=some (.slice (some ⟨lb,0,none⟩) 1 lc):=(hb7.cell (p:=⟨r,0,none⟩) hrl6).trans e06;have l07:w7.cell? ⟨lb,0,none⟩=some Z0:=(hb7.cell (p:=⟨lb,0,none⟩) hL6.out.lt).trans l0;have hb7':=iD (hb6.out.trans (hb7.mono hws6));replace hO7:=iD hO7;clear hrow7 hg7 hv7 hb7;go_frame);refine lE 1 ?_;rw[lB];go_wp2_with fail;rw[lB];go_wp2_with fail;refine (Zio _ _ _).mono ?_;rintro e w8 ⟨rfl,hb8⟩;have hO8:=hO7.out.below hb8 hO7.out.lt;have hb8':=hb7'.out.trans (hb8.mono hb7'.out.size);go_wp2_with fail;go_returns;exact⟨ob,ocp,rs,rfl,hO8,by omega,hb8'⟩
end
section
set_option maxRecDepth 100000
set_option maxHeartbeats 4000000
open Go.Lib renaming hid → iD
open Go.Proofs.Tryz
open Go.RowKit
theorem Z0m(r:Nat)(l:Value)(by_ rb g:Nat)(a:Str)(br:Bool)(d b v:Value)(T:Tab)(ok:Nat->Prop)(w:World)(hR:Blk w r 47 (Y1 l by_ rb g a br))(hB:Blk w rb 267 [d,v,b])(h:TabIs w ok v T)(hf:TFit T) :
  Calls lA 34 #[.pointer (some ⟨r,0,none⟩)] w (O5 w T):=by
 have hm:=iD (Gi r l by_ rb g a br w hR);have ha:=iD (Z99 rb d b v T ok w hB h hf);have c2:w.cell? ⟨r,2,none⟩=some (.pointer (some ⟨rb,0,none⟩)):=hR.cell 2;clear hR hB h hf;go_enter func34,ntmps34;go_wp2_with fail;refine hm.out.mono ?_;rintro e w1 ⟨rfl,rfl⟩;go_wp2_with fail;refine ha.out.mono ?_;rintro e w2 ⟨V,rfl,ho,hb⟩;obtain⟨VA,vc,rfl,_⟩:=ho.form;replace ho:=iD ho;go_wp2_with fail;go_returns;exact⟨_,rfl,ho.out,hb⟩
theorem Z9d(r:Nat)(l:Value)(by_ rb g:Nat)(a:Str)(br:Bool)(d b v:Value)(T:Tab)(ok:Nat->Prop)(w:World)(hR:Blk w r 47 (Y1 l by_ rb g a br))(hB:Blk w rb 267 [d,v,b])(h:TabIs w ok v T)(hf:TFit T)(ht:tOk T)(hl:(T.flatMap (·.heads)).length<=1000)
  (Q:Value->World->Prop) (hben:∀ (A:Option Addr) (c:Nat) (W:World),Below w.heap.size w W->(W.ownsRow w.heap.size 59 32 (.slice A (T.flatMap (·.heads)).length c) (T.flatMap (·.heads)).length (Zv (T.flatMap (·.heads)))) ->
   Calls lA 133 #[.pointer (some ⟨r,0,none⟩),.slice A (T.flatMap (·.heads)).length c] W fun e W'=>∃ o oc n,e=.returned (.tuple #[.slice o n oc,.bool true])/\Q (.slice o n oc) W'/\Below W.heap.size W W') :
  Calls lA 82 #[.pointer (some ⟨r,0,none⟩)] w fun e w'=>∃ o n oc,e=.returned (.slice o n oc)/\Q (.slice o n oc) w'/\Below w.heap.size w w':=by
 have hall:=iD (Z0m r l by_ rb g a br d b v T ok w.drew hR.drew hB.drew (h.stayB (lD _ _).drew) hf);have hheads:=iD (fun v ok w h=>Z9b T v ok w h hf ht hl);obtain⟨hs,hhs⟩:∃ hs,hs=T.flatMap (·.heads):=⟨_,rfl⟩;rw[<-hhs] at hben hheads hl;replace hben:=iD hben;clear hR hB h hhs;go_enter func82,ntmps82;go_wp2_with fail;haveI : Nonempty (Cls fun _=>True):=⟨⟨w,trivial⟩⟩;refine Yh (fun w'=>∃ s:Cls (fun _=>True),w'=s.1) [([0,1,2,3],4),([],5),([],6)] [7,8,9,10] 11 [] (by kernel_rfl) (by kernel_rfl) (fun _ d _ _ _ h=>by cases d <;> exact h) ⟨⟨_,trivial⟩,rfl⟩ ?_;simp only[Y4,Z7,lJ,lL,Zo,Zn];repeat (first | go_big_quiet_step (fail))
 refine lF ?_;intro K hK;go_simp;refine hall.out.mono ?_;rintro e w2 ⟨V,rfl,ho,hb⟩;obtain⟨VA,vc,rfl,_⟩:=ho.form;have hT:=hheads.out _ _ w2 ho.tab;refine hK _ _ ⟨⟨_,trivial⟩,rfl⟩ ?_;clear hK;refine lF ?_;intro K hK;go_simp;refine hT.mono ?_;rintro e w3 ⟨V,rfl,hrow,hb3⟩;obtain⟨HA,hc,rfl,_,_⟩:=Za hrow;refine hK _ _ ⟨⟨_,trivial⟩,rfl⟩ ?_;clear hK;refine lF ?_;intro K hK;go_simp;have hb3':=((lD w.heap.size w).drew.trans hb).trans (hb3.mono (by simpa using hb.size));refine (hben.out HA hc w3 hb3' (J1 (by simpa using hb.size) hrow)).mono ?_;rintro e w4 ⟨O,oc,n,rfl,hQ,hb4⟩;refine hK _ _ ⟨⟨_,trivial⟩,rfl⟩ ?_;clear hK;repeat (first | go_big_quiet_step (fail))
 refine lF ?_;replace hQ:=iD hQ;go_wp2_with fail;go_returns;exact⟨_,_,_,rfl,hQ.out,hb3'.trans (hb4.mono hb3'.size)⟩
theorem Z2o(r:Nat)(by_ rb g:Nat)(a:Str)(br:Bool)(d b v:Value)(ok:Nat->Prop)(w:World)(hR:Blk w r 47 (Y1 Z0 by_ rb g a br))(hB:Blk w rb 267 [d,v,b])(h:TabIs w ok v []) :
  Calls lA 82 #[.pointer (some ⟨r,0,none⟩)] w fun e w'=>e=.returned Z0/\Below w.heap.size w w':=by
 refine (Z9d r Z0 by_ rb g a br d b v [] ok w hR hB h ⟨by simp,fun b hb=>absurd hb (by simp)⟩ (fun b hb=>absurd hb (by simp)) (by simp) (fun o _=>o=Z0) (fun A c W hb _=>?_)).mono ?_
 ·refine (Z9c r A c W ((hb.cell (p:=⟨r,0,none⟩) hR.lt).trans (hR.cell 0))).mono ?_;rintro e W' ⟨rfl,hb'⟩;exact⟨_,_,_,rfl,rfl,hb'⟩
 ·rintro e w' ⟨o,n,oc,rfl,ho,hb⟩;exact⟨by rw[ho],hb⟩
abbrev Xm(n ds:Str):Tab:=[⟨n,[ds]⟩]
theorem Z9e{n ds:Str}(hn:Z6 n=true):Xk (Xm n ds)=0:=by
 simp[Xk,J9,hn,O1,Yp,Ko]
theorem Z4z{n ds:Str}(hdl:ds.length=32):tOk (Xm n ds):=by
 intro b hb d hd;obtain rfl:=lI.1 hb;obtain rfl:=lI.1 hd;exact hdl
theorem Z0n{n ds:Str}(hn:Z6 n=true)(hdl:ds.length=32):TFit (Xm n ds):=Zii (Z9e hn) (Z4z hdl)
theorem Ziq(l:List Str)(v:Value)(ok:Nat->Prop)(w:World)(h:Ze w ok v l)(hf:HFit l)(hne:l ≠ []) :
  Calls lA 100 #[v] w fun e w'=>∃ V,e=.returned V/\w'.ownsRow w.heap.size 59 32 V l.length (Zv l)/\Below w.heap.size w w':=by
 obtain⟨A,c,rfl,hc,hr⟩:=h;have hl:=hf.len;have hlen:=iD (Gz hf.ok);have hone:=iD (Z3d l);have hq:=fun w=>Lib.run_eql_slice_nil (P:=lA) w 22 59 A l.length c 0 0 underlying22;obtain⟨ad,rfl,_⟩:=hr (by rw[hlen.out];have:=l9.2 hne;omega);have hrd:Hid (Rd (w.alloc (.cells #[] 59)) (fun b=>b<w.heap.size) (some ad) (Zv l)):=iD (hr.stay (fun b _ hlt=>lV _ _ _ hlt) (fun b _ hlt=>hlt));have hown:=iD (Z42 w 59 32);have hb0:Hid (Below w.heap.size w (w.alloc (.cells #[] 59))):=iD bL;clear hr hf;go_enter func100,ntmps100;go_wp2_with (at_builtin;refine Yt _ rfl (.tmp 5) (.tmp 6) 22 rfl w.heap.size 59 (.agg Z2.toArray) 32 32 underlying22 Uh (.slice (some ⟨w.heap.size,0,none⟩) 0 0) 0 [] rfl hown.out (fun b=>b<w.heap.size) (some ad) l.length c (Zv l) rfl hlen.out hrd.out hone.out (by unfold maxLen;omega) (by omega) (by simp) ?_;intro v' w2 hrow2 hg2 hv2;replace hrow2:=iD hrow2;replace hg2:=iD hg2;obtain⟨VA,vc,rfl,_,_⟩:=Za hrow2.out;go_frame);go_ret;refine⟨_,rfl,by have:=hrow2.out;simpa using this,?_⟩;exact hb0.out.trans (Yo hown.out hg2.out (by simp))
theorem Zir(rb:Nat)(d br v:Value)(T:Tab)(n:Str)(ok:Nat->Prop)(w:World)(hB:Blk w rb 267 [d,v,br])(h:TabIs w ok v T)(hf:TFit T)(hs:J4 T)(hne:Yb T n ≠ []) :
  Calls lA 91 #[.pointer (some ⟨rb,0,none⟩),Z1 n] w fun e w'=>∃ u,e=.returned (.tuple #[u,.bool true])/\w'.ownsRow w.heap.size 59 32 u (Yb T n).length (Zv (Yb T n))/\Below w.heap.size w w':=by
 obtain⟨u,hu,hst⟩:=Z41 T v n ok w h hf.len hs;have hst:=iD (hst w (lD _ _));have hcl:=iD (fun W (hb:Below w.heap.size w W)=>Ziq (Yb T n) u ok W (hu.stayB hb) (Z21 hf n) hne);obtain⟨A,c,rfl,hc⟩:=h.form;obtain⟨UA,uc,rfl,huc,_⟩:=id hu;have h1:=hB.cell 1;obtain⟨l,hl⟩:∃ l,l=Yb T n:=⟨_,rfl⟩;rw[<-hl] at hst hcl hne ⊢;have hdt:decide (0<l.length)=true:=decide_eq_true (l9.2 hne);unfold Z1 at hst ⊢;clear hu h hl;go_enter func91,ntmps91;go_wp2_with (first
  | (go_at_call 171;(with_reducible refine hst.out.mono ?_);rintro e w2 ⟨rfl,hb2⟩)
  | (go_at_call 100;(with_reducible refine (hcl.out _ hb2).mono ?_);rintro e w3 ⟨x,rfl,hx,hb3⟩;obtain⟨XA,xc,rfl,_,_⟩:=Za hx;replace hx:=iD hx))
 refine lW (results_tmp2 rfl _ _ _) rfl ?_;refine⟨_,?_,J1 hb2.size hx.out,hb2.trans (hb3.mono hb2.size)⟩;rfl
theorem Zis(r:Nat)(l:Value)(by_ rb g:Nat)(a n:Str)(br:Bool)(d b v:Value)(T:Tab)(ok:Nat->Prop)(w:World)(hR:Blk w r 47 (Y1 l by_ rb g a br))(hB:Blk w rb 267 [d,v,b])(h:TabIs w ok v T)(hf:TFit T)(hs:J4 T)(hg:Yb T n=[]) :
  Calls lA 80 #[.pointer (some ⟨r,0,none⟩),Z1 n] w fun e w'=>e=.returned (.tuple #[Z0,.int .i64 5])/\Below w.heap.size w w':=by
 have hm:=iD (Gi r l by_ rb g a br w hR);have hget:=Zij rb d b v T n ok w hB h hf hs;rw[hg] at hget;unfold Z1 at hget ⊢;replace hget:=iD hget;have c2:w.cell? ⟨r,2,none⟩=some (.pointer (some ⟨rb,0,none⟩)):=hR.cell 2;clear hR hB h hf;go_enter func80,ntmps80;go_wp2_with fail;refine hm.out.mono ?_;rintro e w1 ⟨rfl,rfl⟩;go_wp2_with fail;refine hget.out.mono ?_;rintro e w2 ⟨V,rfl,ho,hb⟩;obtain⟨VA,vc,rfl,_⟩:=ho;go_wp2_with fail;go_returns;exact⟨rfl,hb⟩
theorem Zit(r:Nat)(l:Value)(by_ rb g:Nat)(a n:Str)(br:Bool)(d b v:Value)(T:Tab)(ok:Nat->Prop)(w:World)(hR:Blk w r 47 (Y1 l by_ rb g a br))(hB:Blk w rb 267 [d,v,b])(h:TabIs w ok v T)(hf:TFit T)(hs:J4 T)(hg:Yb T n ≠ []) :
  Calls lA 80 #[.pointer (some ⟨r,0,none⟩),Z1 n] w fun e w'=>∃ u,e=.returned (.tuple #[u,.int .i64 0])/\w'.ownsRow w.heap.size 59 32 u (Yb T n).length (Zv (Yb T n))/\Below w.heap.size w w':=by
 have hm:=iD (Gi r l by_ rb g a br w hR);have hget:=Zir rb d b v T n ok w hB h hf hs hg;obtain⟨hs',hhs⟩:∃ hs',hs'=Yb T n:=⟨_,rfl⟩;rw[<-hhs] at hget ⊢;clear hhs;unfold Z1 at hget ⊢;replace hget:=iD hget;have c2:w.cell? ⟨r,2,none⟩=some (.pointer (some ⟨rb,0,none⟩)):=hR.cell 2;clear hR hB h hf;go_enter func80,ntmps80;go_wp2_with fail;refine hm.out.mono ?_;rintro e w1 ⟨rfl,rfl⟩;go_wp2_with fail;refine hget.out.mono ?_;rintro e w2 ⟨V,rfl,ho,hb⟩;obtain⟨VA,vc,rfl,_⟩:=Za ho;replace ho:=iD ho;go_wp2_with fail;go_returns;exact⟨.slice VA hs'.length vc,rfl,ho.out,hb⟩
theorem Ziu(r:Nat)(l:Value)(by_ rb g:Nat)(a n:Str)(br:Bool)(d b v:Value)(T:Tab)(ok:Nat->Prop)(w:World)(hR:Blk w r 47 (Y1 l by_ rb g a br))(hB:Blk w rb 267 [d,v,b])(h:TabIs w ok v T)(hf:TFit T)(hs:J4 T)(hg:Yb T n=[]) :
  Calls lA 27 #[.pointer (some ⟨r,0,none⟩),Z1 n] w fun e w'=>e=.returned (.tuple #[.string ⟨#[]⟩,.int .i64 5])/\Below w.heap.size w w':=by
 have hv:=Zis r l by_ rb g a n br d b v T ok w hR hB h hf hs hg;unfold Z1 at hv ⊢;replace hv:=iD hv;clear hR hB h hf;go_enter func27,ntmps27;go_wp2_with fail;refine hv.out.mono ?_;rintro e w1 ⟨rfl,hb⟩;go_wp2_with fail;go_returns;exact⟨rfl,hb⟩
end
section
set_option maxHeartbeats 2000000
open Go.Lib renaming hid → iD
open Go.Proofs.Tryz
open Go.RowKit Go.Maps Go.Sort
def Z0o:List Value:=[.map none,.map none,.slice none 0 0,.int .i64 0,.int .i64 0,.bool false]
theorem Z9f:(lA.info? 105).map (·.size)=some 6:=by kernel_rfl
def Zj0(w:World)(S:DS)(e:Ending)(w':World):Prop:=∃ g L,e=.returned (.pointer (some ⟨g,0,none⟩))/\J3 w' L g S/\(∀ i ∈ L,w.heap.size<=i)/\Below w.heap.size w w'
theorem Zj1(g bn bs:Nat)(v:Value)(S:DS)(w:World)(h:DiskAt w g bn bs v S)(hp:S.pend.length<=4398046511104):Calls lA 129 #[.pointer (some ⟨g,0,none⟩)] w (Zj0 w S):=by
 have hm:=iD (Z4s g bn bs v S w h);obtain⟨vs,hrow,hops⟩:=h.row;obtain⟨VA,vc,rfl,hvc1,hvc2⟩:=Za hrow;have hone:Hid (∀ u ∈ vs,u.oneCell'=true):=iD (fun u hu=>by
  obtain⟨i,hi,rfl⟩:=List.getElem_of_mem hu;have hi2:i<S.pend.length:=by have:=hops.1;omega
  exact (hops.2 i _ _ (nA hi2) (nA hi)).one)
 have hB:=iD h.blk;have hlen:Hid ((Vn bn bs (.slice VA S.pend.length vc) S).length=6):=iD rfl;have h1c:Hid (∀ u ∈ Vn bn bs (.slice VA S.pend.length vc) S,u.oneCell'=true):=iD (by simp[Vn,l8]);replace hrow:=iD hrow;replace hops:=iD hops;replace h:=iD h;go_enter func129,ntmps129;go_wp2_with fail;refine hm.out.mono ?_;rintro e w1 ⟨rfl,rfl⟩;obtain⟨cs,hcs⟩:∃ cs,cs=Vn bn bs (.slice VA S.pend.length vc) S:=⟨_,rfl⟩;rw[<-hcs] at hB hlen h1c;replace hcs:=iD hcs;go_wp2_with (first
  | (refine Zy rfl 105 (.tmp 8) rfl g rfl 105 cs hB.out _ underlying105 rfl (by rw[hlen.out];exact Z9f) ?_)
  | (refine Zd rfl 105 (.tmp 3) (.tmp 9) rfl w.heap.size cs rfl rfl 105 Z0o (Blk.new_at rfl) (by rw[hlen.out];rfl) (by rw[hlen.out];exact Z9f) h1c.out ?_))
 go_frame;have hb1:Below w.heap.size w ((w.alloc (.cells Z0o.toArray 105)).setRow w.heap.size cs.toArray):=below_setRow bL (lC _) _;have hC1:Blk ((w.alloc (.cells Z0o.toArray 105)).setRow w.heap.size cs.toArray) w.heap.size 105 cs:=(Blk.new_at rfl).setRow_same _
 change Code.wp lA _ _ _ ((w.alloc (.cells Z0o.toArray 105)).setRow w.heap.size cs.toArray)
 generalize (w.alloc (.cells Z0o.toArray 105)).setRow w.heap.size cs.toArray=w1 at hb1 hC1 ⊢;have hd1:=h.out.below hb1;have c0:w1.cell? ⟨g,0,none⟩=some (.map (some bn)):=by rw[hd1.blk.cell];rfl
 have c1:w1.cell? ⟨g,1,none⟩=some (.map (some bs)):=by rw[hd1.blk.cell];rfl
 have c2:w1.cell? ⟨g,2,none⟩=some (.slice VA S.pend.length vc):=by rw[hd1.blk.cell];rfl
 have hgl:g<w1.heap.size:=hd1.blk.lt;have hcl:w.heap.size<w1.heap.size:=hC1.lt;obtain⟨gc,hgc⟩:∃ gc,gc=w.heap.size:=⟨_,rfl⟩;rw[<-hgc] at hC1 hcl ⊢;replace hgc:=iD hgc;replace hd1:=iD hd1;replace hb1:=iD hb1;replace hC1:=iD hC1;have hgne:g ≠ gc:=by rw[hgc.out];have:=h.out.blk.lt;omega
 have hgne':gc ≠ g:=fun e=>hgne e.symm;have hMn:Hid (Zp w1.drew bn S.now):=iD hd1.out.now;have hMs:Hid (∀ w2,Below w1.drew.heap.size w1.drew w2->Zp w2 bs S.sure):=iD (fun w2 hb=>hd1.out.sure.block (hb.block bs hd1.out.sure.lt));have hRo:Hid (∀ w2,Below w1.drew.heap.size w1.drew w2->w2.ownsRow 0 314 1 (.slice VA S.pend.length vc) S.pend.length vs):=iD (fun w2 hb=>Zj (L:=[]) (Zj (L:=[]) hrow.out (Touch.ofBelow hb1.out) (by simp)) ((Touch.drewN 1).trans (Touch.ofBelow (L:=[]) hb) (by simp)) (by simp));have hcc:Hid (∀ w2,Below w1.drew.heap.size w1.drew w2->w2.cell? ⟨g,0,none⟩=some (.map (some bn))/\w2.cell? ⟨g,1,none⟩=some (.map (some bs))/\w2.cell? ⟨g,2,none⟩=some (.slice VA S.pend.length vc)):=iD (fun w2 hb=>⟨(hb.cell (p:=⟨g,0,none⟩) hgl).trans c0,(hb.cell (p:=⟨g,1,none⟩) hgl).trans c1,(hb.cell (p:=⟨g,2,none⟩) hgl).trans c2⟩);have hst:Hid (∀ w2,Below w1.drew.heap.size w1.drew w2->(w2.cell? ⟨gc,0,none⟩=some (.map (some bn))/\w2.cell? ⟨gc,1,none⟩=some (.map (some bs))/\w2.cell? ⟨gc,2,none⟩=some (.slice VA S.pend.length vc))/\w2.frozen? ⟨gc,0,none⟩=false/\w2.frozen? ⟨gc,1,none⟩=false/\w2.frozen? ⟨gc,2,none⟩=false):=iD (fun w2 hb=>by
  have hC2:Blk w2 gc 105 cs:=(hb.block gc hcl).trans hC1.out;refine⟨⟨?_,?_,?_⟩,hC2.frozen 0,hC2.frozen 1,hC2.frozen 2⟩
  ·rw[hC2.cell,hcs.out];rfl
  ·rw[hC2.cell,hcs.out];rfl
  ·rw[hC2.cell,hcs.out];rfl)
 go_region_held3 (fun w'=>w'.cell? ⟨g,0,none⟩=some (.map (some bn))/\w'.cell? ⟨g,1,none⟩=some (.map (some bs))/\w'.cell? ⟨g,2,none⟩=some (.slice VA S.pend.length vc)) (first | exact hcc.out _ hb4.out | exact hcc.out _ hb3.out | exact hcc.out _ hb2.out | go_keep)
  (first
   | (go_at_call 198;with_reducible refine (Z4q _ bn _ hMn.out).mono ?_;rintro e w2 ⟨rfl,hm2,hb2⟩;replace hm2:=iD hm2;replace hb2:=iD hb2)
   | (go_at_call 198;with_reducible refine (Z4q _ bs _ (hMs.out _ hb2.out)).mono ?_;rintro e w3 ⟨rfl,hm3,hb3'⟩;have hb3:=iD (hb2.out.trans (hb3'.mono hb2.out.size));replace hm3:=iD hm3;replace hb3':=iD hb3')
   | (go_at_call 215;with_reducible refine (Ziy _ _ _ _ (hRo.out _ hb3.out) hone.out hp).mono ?_;rintro e w4 ⟨v4,rfl,hr4,hb4'⟩;have hb4:=iD (hb3.out.trans (hb4'.mono hb3.out.size));obtain⟨VA4,vc4,rfl,_,_⟩:=Za hr4;obtain⟨⟨y0,y1,y2⟩,z0,z1,z2⟩:=hst.out _ hb4.out;obtain⟨d0,d1,d2⟩:=hcc.out _ hb4.out;replace hr4:=iD hr4;replace hb4':=iD hb4'))
 clear y0 y1 y2 z0 z1 z2 d0 d1 d2 c0 c1 c2;go_wp2;go_ret;have s1:w1.heap.size<w2.heap.size:=hm2.out.lt;have s2:w2.heap.size<w3.heap.size:=hm3.out.lt;have s3:=hb4'.out.size;have s4:=hb1.out.size;have hC4:Blk w4 gc 105 (Vn bn bs (.slice VA S.pend.length vc) S):=by
  have:=(hb4.out.block gc hcl).trans hC1.out;rw[hcs.out] at this;exact this
 have ht5:Touch [gc] w4 (((w4.setCell ⟨gc,0,none⟩ (.map (some w1.heap.size))).setCell ⟨gc,1,none⟩ (.map (some w2.heap.size))).setCell ⟨gc,2,none⟩ (.slice VA4 S.pend.length vc4)) :=
  ((Touch.setCell _ (by simp)).trans (Touch.setCell _ (by simp)) (fun i hi=>.inl hi)).trans (Touch.setCell _ (by simp)) (fun i hi=>.inl hi)
 have hmn:Zp w2 w1.heap.size S.now:=hm2.out;have hmn4:Zp w4 w1.heap.size S.now:=(hmn.block (hb3'.out.block _ (by omega))).block (hb4'.out.block _ (by omega));have hms4:Zp w4 w2.heap.size S.sure:=hm3.out.block (hb4'.out.block _ (by omega));have hbw4:Below w.heap.size w w4:=hb1.out.trans ((show Below w1.heap.size w1 w4 from ⟨hb4.out.os,hb4.out.tape,hb4.out.output,hb4.out.size,hb4.out.block⟩).mono hb1.out.size);have hops4:Qt w4 S.pend vs:=hops.out.touch (L:=[]) (Touch.ofBelow hbw4) (by simp[Qg]);have hr4':w4.ownsRow 0 314 1 (.slice VA4 S.pend.length vc4) S.pend.length vs:=by
  obtain⟨e1,e2⟩:=hr4.out;refine⟨e1,?_⟩;rcases e2 with e2 | ⟨gx,cap,cur,e3,_,e4⟩
  ·exact .inl e2
  ·exact .inr ⟨gx,cap,cur,e3,Nat.zero_le _,e4⟩
 have hfr:∀ b,(Value.slice VA4 S.pend.length vc4).ownBlock=some b->w3.heap.size<=b:=fun b hb=>(hr4.out.lt b hb).1;refine⟨gc,Zf gc w1.heap.size w2.heap.size (.slice VA4 S.pend.length vc4),rfl,⟨_,_,_,⟨((hC4.set_ 0 _).set_ 1 _).set_ 2 _,hmn4.touch ht5 (by simp;omega),hms4.touch ht5 (by simp;omega),by omega,vs,Zj hr4' ht5 (fun b hb=>by have:=hfr b hb;simp;omega),hops4.touch ht5 (fun i hi cs hc=>?_)⟩,rfl⟩,?_,?_⟩
 ·have : i=gc:=by simpa using hi
  subst this;exact hC4.ne_ hc (by decide) rfl
 ·intro i hi;have hgc':=hgc.out;rcases DiskAt.mem_foot hi with rfl | rfl | rfl | e
  ·omega
  ·omega
  ·omega
  ·have:=hfr i e;omega
 ·exact hbw4.trans (ht5.below (lX (by omega) hbw4.size) (fun i hi=>by have : i=gc:=(by simpa using hi);have:=hgc.out;omega))
end
section
set_option maxRecDepth 100000
set_option maxHeartbeats 8000000
open Go.Lib renaming hid → iD
open Go.Proofs.Tryz
open Go.RowKit
theorem Zj2(A:Option Addr)(c:Nat)(f:Value)(w:World):Calls lA 325 #[.slice A 0 c,.int .i64 0,.int .i64 0,f] w fun e w'=>e=.returned (.tuple #[])/\Below w.heap.size w w':=by
 go_enter func325,ntmps325;go_wp2;go_rounds 1;refine lH (v:=.tuple #[]) (lG (by rfl) _ _ _) rfl ⟨rfl,lD _ _⟩
theorem Zj3(A:Option Addr)(c:Nat)(f n:Value)(w:World):Calls lA 274 #[.slice A 0 c,.int .i64 0,.int .i64 0,n,f] w fun e w'=>e=.returned (.tuple #[])/\Below w.heap.size w w':=by
 have hc:=iD (Zj2 A c f w);go_enter func274,ntmps274;go_wp2_with fail;refine lE 1 ?_;rw[lB];go_wp2_with fail;refine hc.out.mono ?_;rintro e W ⟨rfl,hb⟩;go_wp2_with fail;exact lW (v:=.tuple #[]) (lG (by rfl) _ _ _) rfl ⟨rfl,hb⟩
theorem Zj4(A:Option Addr)(c:Nat)(f:Value)(w:World):Calls lA 220 #[.slice A 0 c,f] w fun e w'=>e=.returned (.tuple #[])/\Below w.heap.size w w':=by
 have hc:=iD (fun n=>Zj3 A c f n w);have hl:=iD (Tryz.bits_Len 0 w (by omega) (by omega));go_enter func220,ntmps220;go_wp2_with fail;refine hl.out.mono ?_;rintro e W ⟨rfl,rfl⟩;go_wp2_with fail;refine (hc.out _).mono ?_;rintro e W1 ⟨rfl,hb⟩;go_wp2_with fail;exact lH (v:=.tuple #[]) (lG (by rfl) _ _ _) rfl ⟨rfl,hb⟩
theorem Zj5(A:Option Addr)(c:Nat)(f:Value)(w:World):Calls lA 262 #[.slice A 0 c,f] w fun e w'=>e=.returned (.int .i64 (-1))/\Below w.heap.size w w':=by
 go_enter func262,ntmps262;go_wp2_with fail;refine lE 1 ?_;rw[lB];go_wp2_with fail;go_returns;exact⟨rfl,lD _ _⟩
theorem Zj6(A:Option Addr)(c:Nat)(f:Value)(w:World):Calls lA 200 #[.slice A 0 c,f] w fun e w'=>e=.returned (.slice A 0 c)/\Below w.heap.size w w':=by
 have hi:=iD (Zj5 A c f w);go_enter func200,ntmps200;go_wp2_with fail;refine hi.out.mono ?_;rintro e W ⟨rfl,hb⟩;go_wp2_with fail;go_returns;exact⟨rfl,hb⟩
theorem Zj7(g bn bs:Nat)(v:Value)(S:DS)(w:World)(h:DiskAt w g bn bs v S)(ho:S.off=false)(hl:Zq S.now=0) :
  Calls lA 131 #[.pointer (some ⟨g,0,none⟩)] w fun e w'=>∃ b,e=.returned (.tuple #[.map (some b),.int .i64 0])/\Z8 w' b []/\w.heap.size<=b/\Below w.heap.size w w':=by
 have hmm:=@lY lA;have hn:=iD (fun W (hb:Below w.heap.size w W)=>Ziz g bn bs v S W (h.below hb) ho (by omega));have hnl:(Vl S.now).length=0:=by rw[Zcr,hl]
 clear h;go_enter func131,ntmps131;go_wp2_with fail;generalize hW1:lK (w.alloc _) (lS _ 190)=w1;have hb1:Below w.heap.size w w1:=by rw[<-hW1];exact bL.alloc (by simp) _
 have hB1:Blk w1 (w.heap.size+1) 190 [.map (some w.heap.size)]:=by rw[<-hW1];exact Blk.new_at (cs:=[.map (some w.heap.size)]) (by simp)
 have hM1:Z8 w1 w.heap.size []:=by rw[<-hW1];exact (Z8.new_at rfl).alloc _
 clear hW1;refine (hn.out w1 hb1).mono ?_;rintro e W ⟨V,rfl,hrow,hb⟩;rw[hnl] at hrow;obtain⟨FA,fc,rfl,_,_⟩:=Za hrow;have hb2:=hb1.trans (hb.mono hb1.size);have hB2:=hB1.below hb hB1.lt;have hM2:=hM1.below hb hM1.lt;clear hrow hb hb1 hB1 hM1;go_wp2_with fail;refine (Zj6 _ _ _ _).mono ?_;rintro e W3 ⟨rfl,hb⟩;have hb3:=hb2.trans (hb.mono hb2.size);have hB3:=hB2.below hb hB2.lt;have hM3:=hM2.below hb hM2.lt;clear hb hb2 hB2 hM2;go_wp2_with fail;refine (Zj4 _ _ _ _).mono ?_;rintro e W4 ⟨rfl,hb⟩;have hb4:=hb3.trans (hb.mono hb3.size);have hB4:=hB3.below hb hB3.lt;have hM4:=hM3.below hb hM3.lt;clear hb hb3 hB3 hM3;have c4:W4.cell? ⟨w.heap.size+1,0,none⟩=some (.map (some w.heap.size)):=hB4.cell 0;replace hb4:=iD hb4;replace hM4:=iD hM4;clear hB4;go_wp2_with fail;refine lE 1 ?_;rw[lB];go_wp2_with fail;go_returns;exact⟨_,rfl,hM4.out,lC _,hb4.out⟩
theorem Zj8(p:Value)(b:Nat)(w:World)(h:Z8 w b []) :
  Calls lA 132 #[p,.map (some b)] w fun e w'=>e=.returned (.tuple #[])/\Below w.heap.size w w':=by
 obtain⟨ck,hrg,hnx⟩:=Z7k underlying190 h;clear h;go_enter func132,ntmps132;go_wp2_with fail;refine lE 2 ?_;rw[lB];go_wp2_with fail;refine lE 1 ?_;rw[lB];go_wp2_with fail;rw[lB];go_wp2_with fail;exact lH (v:=.tuple #[]) (lG (by rfl) _ _ _) rfl ⟨rfl,bL⟩
theorem Zj9{S:DS}(h:Live S none)(s:Str):Zz S.now s=false:=by
 have hl:Zq S.now=0:=h.holds.len;cases hb:Zz S.now s with
 | false=>rfl
 | true =>
  have h1:=Z1d (k:=s) h.holds.map;rw[hb] at h1;simp at h1;omega
def Od:Str:=[112,97,99,107,46,110,101,119]
theorem Z9g{S:DS}(h:Live S none):(Call.remove Od).errno S=5/\(Call.remove Od).turn S=S:=by
 have e:(Call.remove Od).err S=5:=by
  show (if Y3 Od=true then (if Zz S.now Od=true then (0:Int) else 5) else 11)=5;rw[if_pos (by decide),Zj9 h];rfl
 refine⟨(Gh _ h.off h.fuse).trans e,?_⟩;rw[Z0l _ h.off h.fuse,e];rfl
theorem Z50{w0:World}{base:Nat->Prop}{g:Nat}{S:DS}{W:World}(h:Ses w0 base g S W)(hS:Live S none)(a:Str)(ha:Z6 a=true) :
  Calls lA 41 #[.pointer (some ⟨g,0,none⟩),Z1 a] W fun e W'=>∃ r by_ rb v,e=.returned (.tuple #[.pointer (some ⟨r,0,none⟩),.int .i64 0])/\Blk W' r 47 (Y1 Z0 by_ rb g a false)/\Z8 W' by_ []/\Ref w0 base rb g v S [] W'/\base r/\base by_:=by
 have hmm:=@lY lA;have hnm:=fun W=>Vr a W (by have:=nmOk_len' ha;omega);unfold Z1 at hnm ⊢;simp only[ha] at hnm;replace hnm:=iD hnm;have hgo:∃ bn bs pv,DiskAt W g bn bs pv S:=by
  obtain⟨L,⟨bn,bs,pv,hD,_⟩,_⟩:=h.disk;exact⟨bn,bs,pv,hD⟩
 obtain⟨bn,bs,pv,hD⟩:=hgo;have hp:=hS.pend;have hcp:=iD (Zj1 g bn bs pv S W hD (by rw[hp];simp));clear hD;go_enter func41,ntmps41;go_wp2_with fail;refine hcp.out.mono ?_;rintro e W1 ⟨g1,L1,rfl,_,_,hb1⟩;have h1:=h.below hb1;clear hb1 hcp;go_wp2_with fail;refine (hnm.out W1).mono ?_;rintro e W2 ⟨rfl,rfl⟩;go_wp2_with fail;refine (Zig h1 hS).mono ?_;rintro e W2 ⟨rb,v,rfl,h2,_⟩;replace h2:=iD h2;clear h1 h;go_wp2_with fail;obtain⟨L,⟨bn,bs,pv,hD,rfl⟩,hL⟩:=h2.out.disk;have hrm:=Z93 g bn bs pv S Od W2 hD (hS.inv.asked (by omega)) (by decide);rw[(Z9g hS).1,(Z9g hS).2] at hrm;unfold Od Z1 at hrm;refine hrm.mono ?_;rintro e W3 ⟨rfl,ht⟩;have h3:=h2.out.turned hD hL ht;clear hrm ht hD hL h2;replace h3:=iD h3;go_wp2_with fail;obtain⟨L,⟨bn,bs,pv,hD,rfl⟩,hL⟩:=h3.out.disk;refine (Zj7 g bn bs pv S W3 hD hS.off hS.holds.len).mono ?_;rintro e W4 ⟨ob,rfl,hM4,hob,hb4⟩;have h4:=h3.out.below hb4;have hbz:=iD h4.size;clear hb4 h3 hD hL;replace h4:=iD h4;replace hM4:=iD hM4;go_wp2_with fail;generalize hW5:lK (W4.alloc _) (lS _ 47)=w5;have hb5:Below W4.heap.size W4 w5:=by rw[<-hW5];exact bL.alloc (by simp) _
 have hR5:Blk w5 (W4.heap.size+1) 47 (Y1 Z0 W4.heap.size rb g a false):=by rw[<-hW5];exact Blk.new_at (cs:=Y1 Z0 W4.heap.size rb g a false) (by simp)
 have hM5:Z8 w5 W4.heap.size []:=by rw[<-hW5];exact (Z8.new_at rfl).alloc _
 have hO5:=hM4.out.below hb5 hM4.out.lt;have h5:=h4.out.below hb5;have hs4:=h4.out.size;clear hW5 hb5 h4 hM4;refine (Zj8 _ ob w5 hO5).mono ?_;rintro e w6 ⟨rfl,hb6⟩;have hR6:=hR5.below hb6 hR5.lt;have hM6:=hM5.below hb6 hM5.lt;have h6:=h5.below hb6;clear hb6 hR5 hM5 h5 hO5;replace hR6:=iD hR6;replace hM6:=iD hM6;replace h6:=iD h6;go_wp2_with fail;haveI : Nonempty (Cls fun _=>True):=⟨⟨w6,trivial⟩⟩;refine Yh (fun w'=>∃ s:Cls (fun _=>True),w'=s.1) [([0,1,2,3],4),([],5),([],6)] [7,8,9,10] 11 [] (by kernel_rfl) (by kernel_rfl) (fun _ d _ _ _ h=>by cases d <;> exact h) ⟨⟨_,trivial⟩,rfl⟩ ?_;simp only[Y4,Z7,lJ,lL,Zo,Zn];repeat (first | go_big_quiet_step (fail))
 refine lF ?_;intro K hK;go_simp;have hbd:=(lD w6.heap.size w6).drew;have hall:=Z99 rb _ _ v [] _ w6.drew h6.out.ref.drew (h6.out.own.tab.stayB hbd) ⟨by simp,fun b hb=>absurd hb (by simp)⟩;refine hall.mono ?_;rintro e w7 ⟨V,rfl,ho,hb7⟩;obtain⟨VA,vc,rfl,_⟩:=ho.form;have hb7':=hbd.trans hb7;refine hK _ _ ⟨⟨_,trivial⟩,rfl⟩ ?_;clear hK hall;refine lF ?_;intro K hK;go_simp;refine (Z9b [] _ _ w7 ho.tab ⟨by simp,fun b hb=>absurd hb (by simp)⟩ (fun b hb=>absurd hb (by simp)) (by simp)).mono ?_;rintro e w8 ⟨V,rfl,hrow,hb8⟩;obtain⟨HA,hc,rfl,_,_⟩:=Za hrow;have hb8':=hb7'.trans (hb8.mono hb7'.size);clear hrow ho hb7 hb8 hb7';refine hK _ _ ⟨⟨_,trivial⟩,rfl⟩ ?_;clear hK;refine lF ?_;intro K hK;go_simp;have hR8:=hR6.out.below hb8' hR6.out.lt;refine (Z9c _ _ _ _ (hR8.cell 0)).mono ?_;rintro e w9 ⟨rfl,hb9⟩;have hb9':=hb8'.trans (hb9.mono hb8'.size);refine hK _ _ ⟨⟨_,trivial⟩,rfl⟩ ?_;clear hK hb9 hb8' hR8;repeat (first | go_big_quiet_step (fail))
 refine lF ?_;replace hb9':=iD hb9';go_wp2_with fail;go_returns;exact⟨_,_,_,_,rfl,hR6.out.below hb9'.out hR6.out.lt,hM6.out.below hb9'.out hM6.out.lt,h6.out.below hb9'.out,hbz.out _ (by omega),hbz.out _ (by omega)⟩
end
section
open Go.RowKit Go.Maps Go.MapKept Go.ChangeMaps
section
variable {P:Program} {w:World} {b r:Nat} {es left:List (Value × Value)} {k e t:TypeId} {ok:Value->Prop} {key:Value}
abbrev kv(x:MapEntry):Value × Value:=(x.key,x.val)
def Y9(w:World)(b:Nat)(es:List (Value × Value)):Prop:=∃ xs clock,w.heap[b]?=some (.map xs clock)/\xs.toList.map kv=es/\(∀ x ∈ xs.toList,x.born<clock)/\(xs.toList.map (·.born)).Nodup
theorem Y9.v(h:Y9 w b es):Z8 w b es:=by
 obtain⟨xs,clock,h1,h2,_⟩:=h;exact⟨xs,clock,h1,h2⟩
theorem Y9.block{w':World}(h:Y9 w b es)(hb:w'.heap[b]?=w.heap[b]?):Y9 w' b es:=by
 obtain⟨xs,clock,h1,h2⟩:=h;exact⟨xs,clock,hb.trans h1,h2⟩
theorem Y9.lt(h:Y9 w b es):b<w.heap.size:=h.v.lt
theorem Y9.below{w':World}{B:Nat}(h:Y9 w b es)(hb:Below B w w')(hl:b<B):Y9 w' b es:=h.block (hb.block b hl)
theorem Y9.new_at{w:World}{b:Nat}(h:b=w.heap.size):Y9 (w.alloc (.map #[] 0)) b []:=by
 subst h;exact⟨#[],0,lM _ _,rfl,by simp,by simp⟩
theorem Y9.store(h:Y9 w b es)(K:KeyOk P k ok)(ht:P.underlying t=some (.map k e))(hes:∀ p ∈ es,ok p.1)(hk:ok key)(hn:∀ p ∈ es,p.1 ≠ key)(v:Value) :
  ∃ w',(nB t (.map (some b)) key v).run P w=.ok () w'/\Y9 w' b (es++[(key,v)])/\w.mapTurned w' b:=by
 obtain⟨xs,clock,hb,h2,h3,h4⟩:=h;rcases K.find w key hk xs.toList (Z1o h2 hes) with ⟨h1,_⟩ | ⟨j,x,_,h3,h4⟩
 ·refine⟨setBlock w b (.map (xs.push ⟨key,v,clock⟩) (clock+1)),?_,⟨xs.push ⟨key,v,clock⟩,clock+1,?_,?_,?_,?_⟩,⟨xs,clock,_,_,hb,rfl⟩⟩
  ·simp[nB,run_underlying ht,MapKept.run_getObj_map hb,K.check w false key hk,h1,MapKept.run_setObj_map _ hb,lN,setBlock]
  ·obtain⟨hl,_⟩:=nC.1 hb;simp[setBlock,hl]
  ·simp[h2]
  ·intro x hx;simp only[Array.toList_push,List.mem_append,lI] at hx;rcases hx with hx | rfl
   ·have:=h3 x hx;omega
   ·simp
  ·simp only[Array.toList_push,nD,lJ,lL];refine List.nodup_append.2 ⟨h4,by simp,?_⟩;intro a ha c hc;simp only[lI] at hc;obtain⟨x,hx,rfl⟩:=lO.1 ha;have:=h3 x hx;omega
 ·exact absurd h4 (hn (x.key,x.val) (by rw[<-h2];exact lO.2 ⟨x,List.mem_of_getElem? h3,rfl⟩))
def ItW(w:World)(r b:Nat)(es left:List (Value × Value)):Prop:=∃ xs clock since seen c0,w.heap[b]?=some (.map xs clock)/\xs.toList.map kv=es/\(∀ x ∈ xs.toList,x.born<clock)/\(xs.toList.map (·.born)).Nodup /\
 w.heap[r]?=some (.mapIter (some b) since seen c0)/\(∀ x ∈ xs.toList,x.born<since)/\since<=c0/\since<=clock/\left=(leftOf xs seen).toList.map kv
theorem ItW.map(h:ItW w r b es left):Y9 w b es:=by
 obtain⟨xs,clock,_,_,_,h1,h2,h3,h4,_⟩:=h;exact⟨xs,clock,h1,h2,h3,h4⟩
theorem ItW.ne(h:ItW w r b es left):r ≠ b:=by
 obtain⟨xs,clock,_,_,_,h1,h2,h3,h4,h5,_⟩:=h;rintro rfl;rw[h1] at h5;cases h5
theorem ItW.lt(h:ItW w r b es left):r<w.heap.size:=by
 obtain⟨xs,clock,_,_,_,h1,h2,h3,h4,h5,_⟩:=h;exact (nC.1 h5).1
theorem ItW.kept{w':World}(h:ItW w r b es left)(h1:w'.heap[b]?=w.heap[b]?)(h2:w'.heap[r]?=w.heap[r]?):ItW w' r b es left:=by
 obtain⟨xs,clock,s,n,c,g1,g2,g3,g4,g5,g6⟩:=h;exact⟨xs,clock,s,n,c,h1.trans g1,g2,g3,g4,h2.trans g5,g6⟩
theorem Y9.range(h:Y9 w b es)(ht:P.underlying t=some (.map k e)) :
  (Instr.range t (.map (some b))).run P w=.ok (.pointer (some ⟨w.heap.size,0,none⟩)) (w.alloc (.mapIter (some b) (match w.heap[b]? with | some (.map _ c)=>c | _=>0) #[] (match w.heap[b]? with | some (.map _ c)=>c | _=>0))) /\
  ItW (w.alloc (.mapIter (some b) (match w.heap[b]? with | some (.map _ c)=>c | _=>0) #[] (match w.heap[b]? with | some (.map _ c)=>c | _=>0))) w.heap.size b es es:=by
 have hlt:=h.lt;obtain⟨xs,clock,h1,h2,h3,h4⟩:=h;rw[h1];refine⟨run_range_map w t k e b xs clock ht h1,xs,clock,clock,#[],clock,(lV _ _ _ hlt).trans h1,h2,h3,h4,lM _ _,h3,lC _,lC _,?_⟩;rw[<-h2];unfold leftOf;rw[lP,lZ.2 (by simp)]
theorem Zjo{l pre post:List MapEntry}{x:MapEntry}(hl:l=pre++x :: post)(hn:(l.map (·.born)).Nodup):l.filter (fun y=>!(y.born == x.born))=pre++post:=by
 subst hl;rw[nD,lJ] at hn;obtain⟨_,h2,h3⟩:=List.nodup_append.1 hn;have h4:=List.nodup_cons.1 h2;rw[List.filter_append,List.filter_cons_of_neg (by simp),lZ.2,lZ.2]
 ·intro y hy;have : y.born ≠ x.born:=fun he=>h4.1 (by rw[<-he];exact lO.2 ⟨y,hy,rfl⟩);simpa using this
 ·intro y hy;have : y.born ≠ x.born:=h3 _ (lO.2 ⟨y,hy,rfl⟩) _ (by simp);simpa using this
theorem ItW.next(h:ItW w r b es left)(ty:TypeId) :
  (left=[]/\(nE (.pointer (some ⟨r,0,none⟩)) false ty).run P w=.ok (.tuple #[.bool false]) w) ∨
  ∃ pre p post w',left=pre++p :: post/\(nE (.pointer (some ⟨r,0,none⟩)) false ty).run P w=.ok (.tuple #[.bool true,p.1,p.2]) w'/\ItW w' r b es (pre++post)/\w.grownBy w' (some r)/\w'.heap.size=w.heap.size /\
   (Instr.entry (.pointer (some ⟨r,0,none⟩))).run P w'=.ok (.tuple #[p.1,p.2]) w':=by
 have hne:=h.ne;obtain⟨xs,clock,since,seen,c0,hb,h2,h3,h4,hr,hold,hsc,hsk,rfl⟩:=h;rcases run_next_at (P:=P) w ty r b since c0 seen xs clock hr hb hold hsc with ⟨h0,hrun⟩ | ⟨x,hx,w1,hal,hrun⟩
 ·refine .inl ⟨?_,hrun⟩;rw[Array.eq_empty_of_size_eq_zero h0];rfl
 ·obtain⟨hem,hes⟩:=mem_left hx;obtain⟨pre,post,hpp⟩:=List.append_of_mem hx;have hr1:w1.heap[r]?=some (.mapIter (some b) since seen c0):=by rcases hal with rfl | rfl <;> exact hr
  have hb1:w1.heap[b]?=some (.map xs clock):=by rcases hal with rfl | rfl <;> exact hb
  have hset:=heap_set (o':=.mapIter (some b) since (seen.push x.born) clock) hr1;have hb':(setBlock w1 r (.mapIter (some b) since (seen.push x.born) clock)).heap[b]?=some (.map xs clock):=(hset.2 b (fun e1=>hne e1.symm)).trans hb1;have hL:(leftOf xs (seen.push x.born)).toList=pre++post:=by
   have e1:(leftOf xs (seen.push x.born)).toList=((leftOf xs seen).toList).filter (fun y=>!(y.born == x.born)):=by
    unfold leftOf;rw[lP,lP,List.filter_filter]
    congr 1
    funext y
    rw[contains_push];cases seen.contains y.born <;> cases (y.born == x.born) <;> rfl
   rw[e1];refine Zjo hpp ?_;unfold leftOf;rw[lP];exact (List.filter_sublist.map _).nodup h4
  refine .inr ⟨pre.map kv,kv x,post.map kv,_,by rw[hpp];simp,hrun,⟨xs,clock,since,seen.push x.born,clock,hb',h2,h3,h4,hset.1,hold,hsk,hsk,by rw[hL];simp⟩,?_,?_,run_entry_at _ r b since seen xs clock x hset.1 hb' hem h4⟩
  ·rcases hal with rfl | rfl <;> exact⟨rfl,rfl,rfl,by simp[setBlock],fun i _ hi=>hset.2 i (fun e1=>hi (by rw[e1]))⟩
  ·rcases hal with rfl | rfl <;> simp[setBlock]
theorem Z54{ops:Array Oper}{rest:List Oper}{o:Oper}{a:Act}{Q:Exit->Act->World->Prop}(hg:o.guard=none)(m:Operand)(t:TypeId)(hop:o.op=Op.range t m)(k e:TypeId)(ht:P.underlying t=some (.map k e))(b:Nat)(es:List (Value × Value))
  (hm:a.eval m=.map (some b)) (h:Y9 w b es)
  (hK:∀ w',ItW w' w.heap.size b es es->Below w.heap.size w w'->wpList P ops Q rest (a.put o.dst (.pointer (some ⟨w.heap.size,0,none⟩))) w'):wpList P ops Q (o :: rest) a w:=by
 refine wpList_plain hg fun K' hK'=>?_;obtain⟨hrun,h2⟩:=h.range (P:=P) ht;unfold Oper.wp;simp[execOp,hop,hm,hrun,lN];exact hK' _ _ (hK _ h2 bL)
theorem Z0q{ops:Array Oper}{rest:List Oper}{o:Oper}{a:Act}{Q:Exit->Act->World->Prop}(hg:o.guard=none)(it:Operand)(hop:o.op=Op.next it false)(r b:Nat)(es left:List (Value × Value))
  (hit:a.eval it=.pointer (some ⟨r,0,none⟩)) (h:ItW w r b es left)
  (hDone:left=[]->wpList P ops Q rest (a.put o.dst (.tuple #[.bool false])) w)
  (hMore:∀ pre p post w',left=pre++p :: post->ItW w' r b es (pre++post)->Touch [r] w w'->(Instr.entry (.pointer (some ⟨r,0,none⟩))).run P w'=.ok (.tuple #[p.1,p.2]) w'->wpList P ops Q rest (a.put o.dst (.tuple #[.bool true,p.1,p.2])) w') :
  wpList P ops Q (o :: rest) a w:=by
 refine wpList_plain hg fun K' hK'=>?_;unfold Oper.wp;rcases h.next (P:=P) o.type with ⟨h0,hrun⟩ | ⟨pre,p,post,w',hl,hrun,hi,hgr,hsz,hen⟩
 ·simp[execOp,hop,hit,hrun,lN];exact hK' _ _ (hDone h0)
 ·simp[execOp,hop,hit,hrun,lN];exact hK' _ _ (hMore pre p post w' hl hi (Touch.grown hgr (by simp)) hen)
end
end
section
set_option maxRecDepth 100000
set_option maxHeartbeats 8000000
open Go.Lib renaming hid → iD
open Go.Proofs.Tryz
open Go.RowKit
abbrev Qp(mb:Nat)(n:Int):List Value:=[.map (some mb),.int .i64 n]
theorem Zjp(w:World):Calls lA 249 #[] w fun e w'=>∃ sb mb,e=.returned (.pointer (some ⟨sb,0,none⟩))/\Blk w' sb 363 (Qp mb 0)/\Y9 w' mb []/\w.heap.size<=mb/\mb<sb/\Below w.heap.size w w':=by
 have hmm:=@lY lA;go_enter func249,ntmps249;go_wp2_with fail;go_returns;exact⟨_,_,rfl,Blk.new_at (cs:=Qp w.heap.size 0) (by simp),Y9.block (Y9.new_at rfl) (lV _ _ _ (by simp)),lC _,by simp,by go_grown⟩
theorem Zjq(mb:Nat)(W:World):(binOp .neq 361 (.map (some mb)) (.map none)).run lA W=.ok (.bool true) W:=by kernel_rfl
theorem Z2p(sb mb:Nat)(n:Int)(w:World)(h:Blk w sb 363 (Qp mb n)) :
  Calls lA 251 #[.pointer (some ⟨sb,0,none⟩)] w fun e w'=>e=.returned (.bool true)/\w'=w:=by
 have c0:w.cell? ⟨sb,0,none⟩=some (.map (some mb)):=h.cell 0;clear h;have hq:=Zjq mb;go_enter func251,ntmps251;go_wp2;go_ret;exact⟨rfl,rfl⟩
theorem Zjr(sb mb:Nat)(n:Int)(es:List (Value × Value))(w:World)(h:Blk w sb 363 (Qp mb n))(hM:Z8 w mb es) :
  Calls lA 185 #[.pointer (some ⟨sb,0,none⟩)] w fun e w'=>e=.returned (.int .i64 es.length)/\w'=w:=by
 have hmd:=iD (Z2p sb mb n w h);have c0:w.cell? ⟨sb,0,none⟩=some (.map (some mb)):=h.cell 0;have hlen:=fun ty=>hM.len underlying361 ty;go_enter func185,ntmps185;go_wp2_with fail;refine hmd.out.mono ?_;rintro e w2 ⟨rfl,rfl⟩;go_wp2_with fail;go_returns;exact⟨rfl,rfl⟩
theorem Z9s(w:World):(l4 57 0 #[]).run lA w=.ok (.slice (some ⟨w.heap.size,0,none⟩) 0 0) (w.alloc (.cells #[] 5)):=by kernel_rfl
theorem Z9t{P:Program}{w w':World}{o:Oper}{a:Act}(t:TypeId)(ho:o.op=.buildSlice t 0 #[])(r:Value)(h:(l4 t 0 #[]).run P w=.ok r w'):(execOp a.eval o).run P w=.ok (.value r) w':=by
 simp[execOp,ho,h]
theorem Z9u{w:World}{g base:Nat}{e:TypeId}{k:Nat}(h:w.heap[g]?=some (.cells #[] e (0,0)))(hb:base<=g):w.ownsRow base e k (.slice (some ⟨g,0,none⟩) 0 0) 0 [] :=
 ⟨by simp,.inr ⟨g,0,#[],rfl,hb,h,lC _,by unfold maxLen;omega,by simp,by simp⟩⟩
theorem Zjs(xs:Str)(hx:xs.length<=131072)(sb mb:Nat)(A:Option Addr)(c:Nat)(w:World)(h:Blk w sb 363 (Qp mb 0))(hM:Y9 w mb [])(hR:Rd w (· < w.heap.size) A (xs.map B))(hc:xs.length<=c)(hK:Zm w) :
  Calls lA 250 #[.pointer (some ⟨sb,0,none⟩),.slice A xs.length c] w fun e w'=>e=.returned (.tuple #[.agg ((Y6 xs).map B).toArray,.int .i64 0])/\Touch [sb,mb] w w'/\∃ V,Blk w' sb 363 (Qp mb xs.length)/\Y9 w' mb [(.agg ((Y6 xs).map B).toArray,V)]/\w'.ownsRow w.heap.size 5 1 V xs.length (xs.map B):=by
 obtain⟨ds,hds⟩:∃ ds,ds=Y6 xs:=⟨_,rfl⟩;have hdl:ds.length=32:=by rw[hds];exact J2 xs
 rw[<-hds];have hsum:=iD (fun W (hb:Below w.heap.size w W) hK=>Ql xs A c W ((hR.stayB hb).weak (fun _ hlt _=>hlt)) hc (by omega) hK);have hgt:decide ((131072:Int)<(xs.length:Int))=false:=by simp;omega
 have hKb:=iD (fun W (hb:Below w.heap.size w W)=>keys_below hK hb);have hlt:=h.lt;have hmlt:=hM.lt;replace hds:=iD hds;clear hK;go_enter func250,ntmps250;go_wp2_with fail;generalize hW1:lK w _=w1;have hb1:Below w.heap.size w w1:=by rw[<-hW1];exact bL
 have hZ1:Blk w1 w.heap.size 59 Z2:=by rw[<-hW1];exact Blk.new_at (cs:=Z2) rfl
 have hS1:=h.below hb1 hlt;have hM1:=hM.below hb1 hmlt;have hR1:=hR.stayB hb1;clear hW1;refine (Z2p sb mb 0 w1 hS1).mono ?_;rintro e w2 ⟨rfl,rfl⟩;replace hS1:=iD hS1;replace hM1:=iD hM1;replace hR1:=iD hR1;replace hZ1:=iD hZ1;go_wp2_with fail;refine (hsum.out w2 hb1 (hKb.out _ hb1)).mono ?_;rintro e w3 ⟨rfl,hb3⟩;rw[hds.out.symm];have hS3:=hS1.out.below hb3 hS1.out.lt;have hM3:=hM1.out.below hb3 hM1.out.lt;have hR3:=hR1.out.stayB hb3;have hZ3:=hZ1.out.below hb3 hZ1.out.lt;have hb13:=hb1.trans (hb3.mono hb1.size);clear hS1 hM1 hR1 hZ1 hb3 hsum hKb hb1;obtain⟨dc,hdc⟩:∃ dc,dc=ds.map B:=⟨_,rfl⟩;have hdcl:dc.length=32:=by rw[hdc,l5,hdl]
 have hdz:(lA.info? 59).map (·.size)=some dc.length:=by rw[hdc];exact Zg hdl
 have hdo:∀ v ∈ dc,v.oneCell'=true:=by rw[hdc];exact Y5 _
 rw[<-hdc];replace hdc:=iD hdc;replace hdo:=iD hdo;replace hdz:=iD hdz;replace hS3:=iD hS3;replace hM3:=iD hM3;replace hR3:=iD hR3;replace hZ3:=iD hZ3;go_upto_region 6 with (first
  | (refine Zd rfl 59 (.tmp 6) (.tmp 18) rfl w3.heap.size dc rfl rfl 59 Z2 (Blk.new_at rfl) (by rw[hdcl];rfl) hdz.out hdo.out ?_;go_frame)
  | fail)
 generalize hW4:lT _ w3.heap.size dc.toArray=w4;have hD4:Blk w4 w3.heap.size 59 dc:=by rw[<-hW4];exact (Blk.new_at (cs:=Z2) rfl).setRow_same dc
 have hb4:Below w3.heap.size w3 w4:=by rw[<-hW4];exact below_setRow ((lD _ _).alloc (lC _) (.cells Z2.toArray 59)) (lC _) dc.toArray
 obtain⟨db,hdb⟩:∃ db,db=w3.heap.size:=⟨_,rfl⟩;rw[<-hdb] at hD4 ⊢;have hS4:=hS3.out.below hb4 hS3.out.lt;have hM4:=hM3.out.below hb4 hM3.out.lt;have hR4:=hR3.out.stayB hb4;have hZ4:=hZ3.out.below hb4 hZ3.out.lt;have hb14:=hb13.trans (hb4.mono hb13.size);have hdb1:w.heap.size<db:=by rw[hdb];exact hZ3.out.lt
 clear hW4 hS3 hM3 hR3 hZ3 hb4 hb13 hdb;have c0:w4.cell? ⟨sb,0,none⟩=some (.map (some mb)):=hS4.cell 0;have hkD:Ue (.agg dc.toArray):=⟨ds,hdl,by rw[hdc.out]⟩;have hD5:Hid (∀ w',(∃ n,w'=w4.drewN n)->Blk w' db 59 dc):=iD (by rintro _ ⟨n,rfl⟩;exact hD4.drewN n);have hrun:Hid (∀ w',(∃ n,w'=w4.drewN n)->(lU 361 (.map (some mb)) (.agg dc.toArray) true).run lA w'=.ok (.tuple #[.slice none 0 0,.bool false]) w'):=iD (by
  rintro _ ⟨n,rfl⟩;have hA2:Z8 (w4.drewN n) mb []:=hM4.v.block rfl;exact hA2.look_none Ja underlying361 (by kernel_rfl) (by simp) hkD (by simp) true)
 replace hS4:=iD hS4;replace hM4:=iD hM4;replace hR4:=iD hR4;replace hZ4:=iD hZ4;replace hD4:=iD hD4;replace hb14:=iD hb14;refine Y7 10 (by kernel_rfl) (by kernel_rfl) ?_;simp only[nF,nG,nH,nI];repeat (first
  | go_big_quiet_step (fail)
  | (refine Yq 59 (.tmp 6) rfl rfl db 0 rfl 59 dc dc [] hD5.out (by simp) _ underlying59 rfl hdz.out ?_;go_frame)
  | (refine Zc (.lookup 361 (.tmp 23) (.tmp 24) true) rfl rfl (.tuple #[.slice none 0 0,.bool false]) (fun w' hw'=>Kb 361 (.tmp 23) (.tmp 24) true rfl _ _ _ rfl rfl (hrun.out w' hw')) ?_;go_frame))
 refine lF ?_;rintro _ ⟨nq,rfl⟩;clear hrun hD5 c0;have hS5:=hS4.out.drewN nq;have hM5:Y9 (w4.drewN nq) mb []:=hM4.out.block rfl;have hR5:=hR4.out.drewN nq;have hZ5:=hZ4.out.drewN nq;have hD5:=hD4.out.drewN nq;have hb15:Below w.heap.size w (w4.drewN nq):=hb14.out.trans ((Touch.drewN (L:=[]) nq).below hb14.out.size (fun _ hi=>by cases hi));generalize w4.drewN nq=w5 at hS5 hM5 hR5 hZ5 hD5 hb15 ⊢;clear hS4 hM4 hR4 hZ4 hD4 hb14;have c0:w5.cell? ⟨sb,0,none⟩=some (.map (some mb)):=hS5.cell 0;have hlen:=fun ty=>hM5.v.len underlying361 ty;simp only[List.length_nil] at hlen;replace hS5:=iD hS5;replace hM5:=iD hM5;replace hR5:=iD hR5;replace hZ5:=iD hZ5;replace hD5:=iD hD5;replace hb15:=iD hb15;go_upto_region 13 with fail;clear hlen;obtain⟨PS,hPS⟩:∃ PS:World->Prop,∀ x,PS x ↔ Below w5.heap.size w5 x:=⟨_,fun _=>Iff.rfl⟩;have s0:∀ s:Cls PS,s.1.cell? ⟨sb,0,none⟩=some (.map (some mb)):=fun s=>(hS5.out.below ((hPS _).1 s.2) hS5.out.lt).cell 0;have s1:Hid (∀ w',(∃ s:Cls PS,w'=s.1)->Blk w' db 59 dc):=iD (by rintro _ ⟨s,rfl⟩;exact hD5.out.below ((hPS _).1 s.2) hD5.out.lt);have s4:PS w5.drew:=(hPS _).2 (lD _ _).drew;haveI : Nonempty (Cls PS):=⟨⟨_,s4⟩⟩;replace hPS:=iD hPS;clear c0;refine Yh (fun w'=>∃ s:Cls PS,w'=s.1) [([0,1,2,3,4,6],5),([],7)] [] 8 [] (by kernel_rfl) (by kernel_rfl) (fun _ d _ _ _ h=>by cases d <;> exact h) ⟨⟨_,s4⟩,rfl⟩ ?_;simp only[Y4,Z7,lJ,lL,Zo,Zn];repeat (first | go_big_quiet_step (fail) | (refine Yq 59 (.tmp 6) rfl rfl db 0 rfl 59 dc dc [] s1.out (by simp) _ underlying59 rfl hdz.out ?_;go_frame))
 refine lF ?_;intro K hK;refine J0 _ _ rfl _ (Z9t 57 rfl _ (Z9s _)) ?_;have hB1:Below w5.heap.size w5 (w5.drew.alloc (.cells #[] 5)):=by go_grown
 refine hK _ _ ⟨⟨_,(hPS.out _).2 hB1⟩,rfl⟩ ?_;clear hK;refine lF ?_;intro K hK;have hown:(w5.drew.alloc (.cells #[] 5)).ownsRow w.heap.size 5 1 (.slice (some ⟨w5.heap.size,0,none⟩) 0 0) 0 []:=Z9u (lM _ _) hb15.out.size;refine Vs _ rfl (.tmp 53) (.tmp 54) 57 rfl w.heap.size 5 _ 1 1 underlying57 Kh (.slice (some ⟨w5.heap.size,0,none⟩) 0 0) 0 [] rfl hown (· < w.heap.size) A xs.length c (xs.map B) rfl (by simp) (hR5.out.stayB hB1) (Y5 _) (by unfold maxLen;omega) (by omega) (by simp;exact lX hb15.out.size (Nat.le_succ _)) ?_;intro V w6 hrow hg6 hv6;rw[l6,lQ] at hrow;have hb6:Below w5.heap.size w5 w6:=hB1.trans (Z11 (g:=w5.heap.size) hg6 (by simp) (lC _));refine hK _ _ ⟨⟨_,(hPS.out _).2 hb6⟩,rfl⟩ ?_;clear hK hown hg6 hB1;refine lF ?_;go_frame;have hS6:=hS5.out.below hb6 hS5.out.lt;have hM6:=hM5.out.below hb6 hM5.out.lt;have hZ6:=hZ5.out.below hb6 hZ5.out.lt;have hD6:=hD5.out.below hb6 hD5.out.lt;have hb16:=hb15.out.trans (hb6.mono hb15.out.size);have hVt:∀ b,V.ownBlock=some b->w5.heap.size<=b:=fun b hb=>by
  rcases hv6 with e | e
  ·rw[e] at hb;have : w5.heap.size=b:=by simpa[Value.ownBlock] using hb
   omega
  ·rw[e] at hb;have : w5.heap.size+1=b:=by simpa using hb
   omega
 obtain⟨w7,hrun,hM7,ht7⟩:=hM6.store Ja underlying361 (by simp) hkD (by simp) V;have htab:Touch [mb] w6 w7:=Kz ht7;obtain⟨VA,vc,rfl,_⟩:=Za hrow;refine Ob rfl (Oa 361 (.tmp 51) (.tmp 52) (.tmp 55) rfl _ _ _ rfl rfl rfl hrun) ?_;have hne1:sb ≠ mb:=hM6.v.ne_blk hS6;have hne2:db ≠ mb:=hM6.v.ne_blk hD6;have hne3:w.heap.size ≠ mb:=hM6.v.ne_blk hZ6;have hS7:=hS6.touch htab (by simpa using hne1);have hZ7:=hZ6.touch htab (by simpa using hne3);have hD7:=hD6.touch htab (by simpa using hne2);have hrow7:=Zj hrow htab (fun b hb hm=>by
  have h1:=hVt b hb;have h2:=hM5.out.lt;simp at hm;omega)
 have hT7:Touch [sb,mb] w w7:=(Touch.ofBelow hb16).trans htab (fun i hi=>.inl (by simp at hi ⊢;exact .inr hi));rw[lQ] at hM7;clear hM6 hS6 hZ6 hD6 hrow htab ht7 hrun hv6 hVt hb6 hb16 hb15 hS5 hM5 hR5 hZ5 hD5 s0 s1 hPS;have c1:w7.cell? ⟨sb,1,none⟩=some (.int .i64 0):=hS7.cell 1;have f1:=hS7.frozen 1;replace hS7:=iD hS7;replace hM7:=iD hM7;replace hZ7:=iD hZ7;replace hD7:=iD hD7;replace hrow7:=iD hrow7;replace hT7:=iD hT7;go_upto_region 15 with fail;generalize hW8:l7 w7 _ _=w8;have hS8:Blk w8 sb 363 (Qp mb xs.length):=by rw[<-hW8];exact hS7.out.set_ 1 _
 have ht8:Touch [sb] w7 w8:=by rw[<-hW8];exact Touch.setCell _ (by simp)
 have hM8:Y9 w8 mb _:=hM7.out.block (ht8.block mb hM7.out.lt (by simp;omega));have hD8:=hD7.out.touch ht8 (by simp;omega);have hZ8:=hZ7.out.touch ht8 (by simp;omega);have hrow8:=Zj hrow7.out ht8 (fun b hb hm=>by
  have:=Ys hrow7.out hS7.out (by decide);obtain rfl:b=sb:=by simpa using hm
  exact this hb.symm)
 have hT8:Touch [sb,mb] w w8:=hT7.out.trans ht8 (fun i hi=>.inl (by simp at hi ⊢;exact .inl hi));clear hW8 hS7 hM7 hZ7 hD7 hrow7 hT7 ht8 c1 f1;replace hS8:=iD hS8;replace hM8:=iD hM8;replace hZ8:=iD hZ8;replace hD8:=iD hD8;replace hrow8:=iD hrow8;replace hT8:=iD hT8;go_wp2_with (first
  | (refine Zy rfl 59 (.tmp 6) rfl db rfl 59 dc hD8.out _ underlying59 rfl hdz.out ?_;go_frame)
  | (refine Zd rfl 59 (.tmp 4) (.tmp 65) rfl w.heap.size dc rfl rfl 59 Z2 hZ8.out (by rw[hdcl];rfl) hdz.out hdo.out ?_;go_frame)
  | fail)
 have ht9:Touch [w.heap.size] w8 (w8.setRow w.heap.size dc.toArray):=Touch.setRow (by simp) _;refine Kd rfl w.heap.size 59 dc _ (.int .i64 0) rfl rfl (hZ8.out.setRow_same _) underlying59 rfl hdz.out rfl ⟨by rw[hdc.out],hT8.out.trans ht9 (fun i hi=>.inr (by simp at hi;omega)),.slice VA xs.length vc,hS8.out.touch ht9 (by simp;omega),?_,?_⟩
 ·rw[<-hdc.out];exact hM8.out.block (ht9.block mb hM8.out.lt (by simp;omega))
 ·refine Zj hrow8.out ht9 (fun b hb hm=>?_);have:=Ys hrow8.out hZ8.out (by decide);obtain rfl:b=w.heap.size:=by simpa using hm
  exact this hb.symm
end
section
set_option maxRecDepth 100000
set_option maxHeartbeats 8000000
open Go.Lib renaming hid → iD
open Go.Proofs.Tryz
open Go.RowKit
theorem Zjt(ds xs:Str)(hdl:ds.length=32)(hx:xs.length<=131072)(sb mb:Nat)(n:Int)(VA:Option Addr)(vc:Nat)(w:World)(h:Blk w sb 363 (Qp mb n))(hM:Y9 w mb [(.agg (ds.map B).toArray,.slice VA xs.length vc)])(hR:Rd w (· < w.heap.size) VA (xs.map B))(_hc:xs.length<=vc) :
  Calls lA 254 #[.pointer (some ⟨sb,0,none⟩),.agg (ds.map B).toArray] w fun e w'=>∃ V,e=.returned (.tuple #[V,.int .i64 0])/\w'.ownsRow w.heap.size 5 1 V xs.length (xs.map B)/\Below w.heap.size w w':=by
 obtain⟨dc,hdc⟩:∃ dc,dc=ds.map B:=⟨_,rfl⟩;have hdcl:dc.length=32:=by rw[hdc,l5,hdl]
 have hdz:(lA.info? 59).map (·.size)=some dc.length:=by rw[hdc];exact Zg hdl
 have hkD:Ue (.agg dc.toArray):=⟨ds,hdl,by rw[hdc]⟩;rw[<-hdc] at hM ⊢;generalize hW1:(w.alloc (.cells dc.toArray 59))=w1;have hb1:Below w.heap.size w w1:=by rw[<-hW1];exact bL
 have hD1:Blk w1 w.heap.size 59 dc:=by rw[<-hW1];exact Blk.new_at (cs:=dc) rfl
 have hS1:=h.below hb1 h.lt;have hM1:=hM.below hb1 hM.lt;have hR1:=hR.stayB hb1;have c0:w1.cell? ⟨sb,0,none⟩=some (.map (some mb)):=hS1.cell 0;have hD2:Hid (∀ w',(∃ n,w'=w1.drewN n)->Blk w' w.heap.size 59 dc):=iD (by rintro _ ⟨n,rfl⟩;exact hD1.drewN n);have hrun:Hid (∀ w',(∃ n,w'=w1.drewN n)->(lU 361 (.map (some mb)) (.agg dc.toArray) true).run lA w'=.ok (.tuple #[.slice VA xs.length vc,.bool true]) w'):=iD (by
  rintro _ ⟨n,rfl⟩;have hA2:Z8 (w1.drewN n) mb [(.agg dc.toArray,.slice VA xs.length vc)]:=hM1.v.block rfl;exact hA2.look_some Ja underlying361 (by simpa using hkD) hkD (by simp) (by simp) true)
 have hmd:=iD (Z2p sb mb n w1 hS1);replace hS1:=iD hS1;replace hM1:=iD hM1;replace hR1:=iD hR1;replace hdc:=iD hdc;replace hdz:=iD hdz;replace hb1:=iD hb1;clear h hM hR hD1;go_enter func254,ntmps254;go_wp2_with fail;refine hmd.out.mono ?_;rintro e w2 ⟨rfl,rfl⟩;go_wp2_with fail;refine Y7 10 (by kernel_rfl) (by kernel_rfl) ?_;simp only[nF,nG,nH,nI];repeat (first
  | go_big_quiet_step (fail)
  | (refine Yq 59 (.tmp 3) rfl rfl w.heap.size 0 rfl 59 dc dc [] hD2.out (by simp) _ underlying59 rfl hdz.out ?_;go_frame)
  | (refine Zc (.lookup 361 (.tmp 15) (.tmp 16) true) rfl rfl (.tuple #[.slice VA xs.length vc,.bool true]) (fun w' hw'=>Kb 361 (.tmp 15) (.tmp 16) true rfl _ _ _ rfl rfl (hrun.out w' hw')) ?_;go_frame))
 refine lF ?_;rintro _ ⟨nq,rfl⟩;clear hrun hD2 c0 hmd;have hR3:=hR1.out.drewN nq;have hb3:Below w.heap.size w (w2.drewN nq):=hb1.out.trans ((Touch.drewN (L:=[]) nq).below hb1.out.size (fun _ hi=>by cases hi));generalize w2.drewN nq=w3 at hR3 hb3 ⊢;clear hS1 hM1 hR1 hb1;replace hR3:=iD hR3;replace hb3:=iD hb3;go_upto_region 6 with fail;go_wp2_with (first
  | (refine J5 rfl _ (Z9t 57 rfl _ (Z9s _)) ?_;go_frame)
  | (at_builtin;refine Yt _ rfl (.tmp 22) (.tmp 23) 57 rfl w.heap.size 5 (B 0) 1 1 underlying57 Kh (.slice (some ⟨w3.heap.size,0,none⟩) 0 0) 0 [] rfl (Z9u (lM _ _) hb3.out.size) (· < w.heap.size) VA xs.length vc (xs.map B) rfl (by simp) (hR3.out.stayB bL) (Y5 _) (by unfold maxLen;omega) (by omega) (by simp;exact lX hb3.out.size (Nat.le_succ _)) ?_;intro V w4 hrow hg hv;rw[l6,lQ] at hrow;replace hrow:=iD hrow;replace hg:=iD hg;go_frame)
  | fail)
 go_returns;refine⟨V,rfl,hrow.out,?_⟩;have h1:Below w3.heap.size w3 w4:=((lD w3.heap.size w3).alloc (lC _) (.cells #[] 5)).trans (Z11 (g:=w3.heap.size) hg.out (by simp) (lC _));exact hb3.out.trans (h1.mono hb3.out.size)
theorem Z0r(d:Str)(hd:d.length=32)(w:World):(l4 22 1 #[(0,.agg (d.map B).toArray)]).run lA w=.ok (.slice (some ⟨w.heap.size,0,none⟩) 1 1) (w.alloc (.cells (d.map B).toArray 59)):=by
 iterate 32 (rcases d with _ | ⟨_,d⟩;· (exfalso;simp at hd;done))
 obtain rfl:d=[]:=by
  simp only[List.length_cons] at hd;exact List.length_eq_zero_iff.1 (by omega)
 kernel_rfl
theorem Zju(A:Option Addr)(c:Nat)(f:Value)(w:World):Calls lA 276 #[.slice A 1 c,.int .i64 0,.int .i64 1,f] w fun e w'=>e=.returned (.tuple #[])/\Below w.heap.size w w':=by
 go_enter func276,ntmps276;go_wp2_with fail;refine lE 1 ?_;rw[lB];go_wp2_with fail;exact lH (v:=.tuple #[]) (lG (by rfl) _ _ _) rfl ⟨rfl,lD _ _⟩
theorem Zjv(A:Option Addr)(c:Nat)(f n:Value)(w:World):Calls lA 224 #[.slice A 1 c,.int .i64 0,.int .i64 1,n,f] w fun e w'=>e=.returned (.tuple #[])/\Below w.heap.size w w':=by
 have hc:=iD (Zju A c f w);go_enter func224,ntmps224;go_wp2_with fail;refine lE 1 ?_;rw[lB];go_wp2_with fail;refine hc.out.mono ?_;rintro e W ⟨rfl,hb⟩;go_wp2_with fail;exact lW (v:=.tuple #[]) (lG (by rfl) _ _ _) rfl ⟨rfl,hb⟩
theorem Z9v(A:Option Addr)(c:Nat)(f:Value)(w:World):Calls lA 139 #[.slice A 1 c,f] w fun e w'=>e=.returned (.tuple #[])/\Below w.heap.size w w':=by
 have hc:=iD (fun n=>Zjv A c f n w);have hl:=iD (Tryz.bits_Len 1 w (by omega) (by omega));go_enter func139,ntmps139;go_wp2_with fail;refine hl.out.mono ?_;rintro e W ⟨rfl,rfl⟩;go_wp2_with fail;refine (hc.out _).mono ?_;rintro e W1 ⟨rfl,hb⟩;go_wp2_with fail;exact lH (v:=.tuple #[]) (lG (by rfl) _ _ _) rfl ⟨rfl,hb⟩
theorem Zjw(ds:Str)(hdl:ds.length=32)(V:Value)(sb mb:Nat)(n:Int)(w:World)(h:Blk w sb 363 (Qp mb n))(hM:Y9 w mb [(.agg (ds.map B).toArray,V)]) :
    Calls lA 253 #[.pointer (some ⟨sb,0,none⟩)] w fun e w'=>∃ A c,e=.returned (.slice A 1 c)/\w'.ownsRow w.heap.size 59 32 (.slice A 1 c) 1 (ds.map B)/\Below w.heap.size w w':=by
  obtain⟨dc,hdc⟩:∃ dc,dc=ds.map B:=⟨_,rfl⟩;have hdcl:dc.length=32:=by rw[hdc,l5,hdl]
  have hdz:(lA.info? 59).map (·.size)=some dc.length:=by rw[hdc];exact Zg hdl
  have hdo:∀ v ∈ dc,v.oneCell'=true:=by rw[hdc];exact Y5 _
  rw[<-hdc] at hM ⊢;have c0:w.cell? ⟨sb,0,none⟩=some (.map (some mb)):=h.cell 0;have hmd:=iD (Z2p sb mb n w h);replace hM:=iD hM;replace hdc:=iD hdc;replace hdz:=iD hdz;replace hdo:=iD hdo;go_enter func253,ntmps253;go_wp2_with fail;refine hmd.out.mono ?_;rintro e w2 ⟨rfl,rfl⟩;go_wp2_with (first
    | (at_range;refine Z54 rfl (.tmp 10) 361 rfl 59 57 underlying361 mb _ rfl hM.out ?_;intro w3 hI3 hb3;replace hI3:=iD hI3;replace hb3:=iD hb3;go_frame)
    | fail)
  refine lE 2 ?_;rw[lB];go_upto_region 5 with (first
    | (at_next;refine Z0q rfl (.tmp 11) rfl _ mb _ _ rfl hI3.out (fun h=>by cases h) ?_;intro pre p post w4 hl hI4 hT4 hen)
    | fail)
  obtain⟨rfl,rfl,rfl⟩:pre=[]/\p=(Value.agg dc.toArray,V)/\post=[]:=by
    cases pre with
    | nil=>injection hl with h1 h2;exact⟨rfl,h1.symm,h2.symm⟩
    | cons q r=>exfalso;injection hl with h1 h2;cases r <;> simp at h2
  have hT24:Below w2.heap.size w2 w4:=hb3.out.trans (hT4.below hb3.out.size (fun i hi=>by simp at hi;omega));clear hl hI3 hb3 hT4;replace hI4:=iD hI4;replace hT24:=iD hT24;go_upto_region 6 with (first
    | (refine Zd rfl 59 (.tmp 4) (.tmp 15) rfl w4.heap.size dc rfl rfl 59 Z2 (Blk.new_at rfl) (by rw[hdcl];rfl) hdz.out hdo.out ?_;go_frame)
    | fail)
  generalize hW5:lT _ w4.heap.size dc.toArray=w5;have hD5:Blk w5 w4.heap.size 59 dc:=by rw[<-hW5];exact (Blk.new_at (cs:=Z2) rfl).setRow_same dc
  have hb5:Below w4.heap.size w4 w5:=by rw[<-hW5];exact below_setRow ((lD _ _).alloc (lC _) (.cells Z2.toArray 59)) (lC _) dc.toArray
  have hI5:=hI4.out.kept (hb5.block _ hI4.out.map.lt) (hb5.block _ hI4.out.lt);have hT25:=hT24.out.trans (hb5.mono hT24.out.size);have hlt5:=hI4.out.lt;clear hW5 hI4 hT24 hen;replace hD5:=iD hD5;replace hI5:=iD hI5;replace hT25:=iD hT25;replace hb5:=iD hb5;have hbs:=iD (fun W=>Z0r ds hdl W);rw[<-hdc.out] at hbs;go_wp2_with (first
    | (refine Zy rfl 59 (.tmp 4) rfl w4.heap.size rfl 59 dc hD5.out _ underlying59 rfl hdz.out ?_;go_frame
       refine J5 rfl _ (Jy 22 (.tmp 17) rfl (.agg dc.toArray) _ rfl (hbs.out w5)) ?_;go_frame;refine Yt _ rfl (.tmp 16) (.tmp 18) 22 rfl w2.heap.size 59 _ 32 32 underlying22 Uh Z0 0 [] rfl ⟨rfl,.inl ⟨rfl,rfl⟩⟩ (fun _=>True) (some ⟨w5.heap.size,0,none⟩) 1 1 dc rfl (by omega) (Rd.of_blk (cs:=dc) (r:=[]) (Blk.new_at rfl) (by simp) trivial) hdo.out (by unfold maxLen;omega) (by omega) (by have:=hT25.out.size;simp;omega) ?_;intro R w6 hrow hg hv;rw[l6,lQ] at hrow;obtain⟨RA,rc,rfl,_,_⟩:=Za hrow;have hb6:Below w5.heap.size w5 w6:=((lD w5.heap.size w5).alloc (lC _) (.cells dc.toArray 59)).trans (Yo (v:=Z0) (n:=0) (xs:=[]) (e:=59) (size:=32) ⟨rfl,.inl ⟨rfl,rfl⟩⟩ hg (by simp));have hI6:=hI5.out.kept (hb6.block _ hI5.out.map.lt) (hb6.block _ hI5.out.lt);have hT26:=hT25.out.trans (hb6.mono hT25.out.size);clear hg hv hb6;replace hrow:=iD hrow;replace hI6:=iD hI6;replace hT26:=iD hT26;go_frame;refine Y2 (.assign (.tmp 19)) rfl rfl (.slice RA 1 rc) rfl ?_;go_frame;refine wpList_nil ?_
       change Code.rounds _ _ _ 1 _ _
       rw[lB];refine Hid.out ?_)
    | fail)
  refine iD ?_;go_wp2_with (first
    | (at_next;refine Z0q rfl (.tmp 11) rfl _ mb _ _ rfl hI6.out (fun _=>?_) (fun pre p post w' h=>by cases pre <;> simp at h))
    | fail)
  have hso:=iD (Z9v RA rc (.func (.func 301) #[] #[]) w6);go_wp2_with fail;refine hso.out.mono ?_;rintro e w7 ⟨rfl,hb7⟩;have hrow7:=Zj hrow.out (Touch.ofBelow (L:=[]) hb7) (fun b hb hm=>by cases hm);have hT27:=hT26.out.trans (hb7.mono hT26.out.size);replace hrow7:=iD hrow7;replace hT27:=iD hT27;go_wp2_with fail;go_returns;exact⟨_,_,rfl,hrow7.out,hT27.out⟩
end
end Go.Proofs.YtefjlobdifjogaaGreatDoor
