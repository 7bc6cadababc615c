import Derived.Test.YtfdimggmljkkbaaGreatDoorP13
import Derived.Maps.Range
open Array renaming toList_filter → lK, getElem?_eq_some_iff → lS
open Go renaming rounds_succ → lB, wp_loop_rounds → lC, results_none → lF, bodyPost_end → lG, wpQuiet_nil → lH
open Go.Instr renaming mapUpdate → lR, next → lW
open Go.Proofs.Tryz renaming prog → lA
open Go.Result renaming andThen → lI
open Go.RowKit.Below renaming refl → lD, heap_alloc → lP
open List renaming mem_map → lJ, map_cons → lL, filter_eq_self → lM, map_nil → lN, length_pos_iff → lO, getElem?_eq_getElem → lQ, mem_singleton → lT, map_append → lU, nodup_append → lV
open Nat renaming le_refl → lE
namespace Go.Proofs.YtfdimggmljkkbaaGreatDoor
section
set_option maxRecDepth 100000
set_option maxHeartbeats 4000000
open Go.Proofs.Tryz
open Go.RowKit
theorem Zat(w:World):Calls lA 148 #[Z2] w fun e w'=>e=.returned (.tuple #[])/\Below w.heap.size w w':=by
 go_enter func148,ntmps148;go_wp2_with fail;refine lC 1 ?_;rw[lB];go_wp2_with fail;exact lG (v:=.tuple #[]) (lF (by rfl) _ _ _) rfl ⟨rfl,lD _ _⟩
theorem Zju(r:Nat)(A:Option Addr)(c:Nat)(w:World)(c0:w.cell? ⟨r,0,none⟩=some Z2) :
  Calls lA 75 #[.pointer (some ⟨r,0,none⟩),.slice A 0 c] w fun e w'=>e=.returned (.tuple #[Z2,.bool true])/\Below w.heap.size w w':=by
 have hmk:=mkB0;have a0:∀ o,(w.alloc o).cell? ⟨r,0,none⟩=some Z2:=fun o=>(((lD w.heap.size w).alloc (lE _) o).cell (p:=⟨r,0,none⟩) (World.block_lt_of_cell? _ _ c0)).trans c0;go_enter func75,ntmps75;go_wp2_with fail;refine lC 1 ?_;rw[lB];go_wp2_with fail;refine lC 1 ?_;rw[lB];go_wp2_with fail;refine (Zat _).mono ?_;rintro e W ⟨rfl,hb⟩;have hbf:=((lD _ _).alloc (lE w.heap.size) (.cells #[] 4)).trans (hb.mono (by simp));go_wp2_with fail;go_returns;exact⟨rfl,hbf⟩
theorem Z67:InfoOf lA 82 (.agg #[Z2,.string ⟨#[]⟩,.string ⟨#[]⟩,Z2]) 4 80:=⟨by kernel_rfl,rfl,by omega⟩
end
section
set_option maxRecDepth 100000
set_option maxHeartbeats 4000000
open Go.Lib renaming hid → iD
open Go.Proofs.Tryz
open Go.RowKit
theorem Z68(r:Nat)(l:Value)(by_ rb g:Nat)(a:Str)(br:Bool)(d b v:Value)(T:Tab)(ok:Nat->Prop)(w:World)(hR:Blk w r 32 (Xv l by_ rb g a br))(hB:Blk w rb 164 [d,v,b])(h:TabIs w ok v T)(hf:TFit T) :
  Calls lA 11 #[.pointer (some ⟨r,0,none⟩)] w (Z5a w T):=by
 have hm:=iD (Z1u r l by_ rb g a br w hR);have ha:=iD (Zao rb d b v T ok w hB h hf);have c2:w.cell? ⟨r,2,none⟩=some (.pointer (some ⟨rb,0,none⟩)):=hR.cell 2;clear hR hB h hf;go_enter func11,ntmps11;go_wp2_with fail;refine hm.out.mono ?_;rintro e w1 ⟨rfl,rfl⟩;go_wp2_with fail;refine ha.out.mono ?_;rintro e w2 ⟨V,rfl,ho,hb⟩;obtain⟨VA,vc,rfl,_⟩:=ho.form;replace ho:=iD ho;go_wp2_with fail;go_returns;exact⟨_,rfl,ho.out,hb⟩
theorem Zjv(r:Nat)(l:Value)(by_ rb g:Nat)(a:Str)(br:Bool)(d b v:Value)(T:Tab)(ok:Nat->Prop)(w:World)(hR:Blk w r 32 (Xv l by_ rb g a br))(hB:Blk w rb 164 [d,v,b])(h:TabIs w ok v T)(hf:TFit T)(ht:tOk T)(hl:(T.flatMap (·.heads)).length<=1000)
  (Q:Value->World->Prop) (hben:∀ (A:Option Addr) (c:Nat) (W:World),Below w.heap.size w W->(W.ownsRow w.heap.size 47 32 (.slice A (T.flatMap (·.heads)).length c) (T.flatMap (·.heads)).length (Zy (T.flatMap (·.heads)))) ->
   Calls lA 75 #[.pointer (some ⟨r,0,none⟩),.slice A (T.flatMap (·.heads)).length c] W fun e W'=>∃ o oc n,e=.returned (.tuple #[.slice o n oc,.bool true])/\Q (.slice o n oc) W'/\Below W.heap.size W W') :
  Calls lA 22 #[.pointer (some ⟨r,0,none⟩)] w fun e w'=>∃ o n oc,e=.returned (.slice o n oc)/\Q (.slice o n oc) w'/\Below w.heap.size w w':=by
 have hall:=iD (Z68 r l by_ rb g a br d b v T ok w.drew hR.drew hB.drew (h.stayB (lD _ _).drew) hf);have hheads:=iD (fun v ok w h=>Zas T v ok w h hf ht hl);obtain⟨hs,hhs⟩:∃ hs,hs=T.flatMap (·.heads):=⟨_,rfl⟩;rw[<-hhs] at hben hheads hl;replace hben:=iD hben;clear hR hB h hhs;go_enter func22,ntmps22;go_wp2_with fail;haveI : Nonempty (Cls fun _=>True):=⟨⟨w,trivial⟩⟩;refine Kk (fun w'=>∃ s:Cls (fun _=>True),w'=s.1) [([0,1,2,3],4),([],5),([],6)] [7,8,9,10] 11 [] (by kernel_rfl) (by kernel_rfl) (fun _ d _ _ _ h=>by cases d <;> exact h) ⟨⟨_,trivial⟩,rfl⟩ ?_;simp only[Jr,Zj,lL,lN,Yw,Ys];repeat (first | go_big_quiet_step (fail))
 refine lH ?_;intro K hK;go_simp;refine hall.out.mono ?_;rintro e w2 ⟨V,rfl,ho,hb⟩;obtain⟨VA,vc,rfl,_⟩:=ho.form;have hT:=hheads.out _ _ w2 ho.tab;refine hK _ _ ⟨⟨_,trivial⟩,rfl⟩ ?_;clear hK;refine lH ?_;intro K hK;go_simp;refine hT.mono ?_;rintro e w3 ⟨V,rfl,hrow,hb3⟩;obtain⟨HA,hc,rfl,_,_⟩:=Z6 hrow;refine hK _ _ ⟨⟨_,trivial⟩,rfl⟩ ?_;clear hK;refine lH ?_;intro K hK;go_simp;have hb3':=((lD w.heap.size w).drew.trans hb).trans (hb3.mono (by simpa using hb.size));refine (hben.out HA hc w3 hb3' (Oh (by simpa using hb.size) hrow)).mono ?_;rintro e w4 ⟨O,oc,n,rfl,hQ,hb4⟩;refine hK _ _ ⟨⟨_,trivial⟩,rfl⟩ ?_;clear hK;repeat (first | go_big_quiet_step (fail))
 refine lH ?_;replace hQ:=iD hQ;go_wp2_with fail;go_returns;exact⟨_,_,_,rfl,hQ.out,hb3'.trans (hb4.mono hb3'.size)⟩
theorem Zjw(l:List Str)(v:Value)(ok:Nat->Prop)(w:World)(h:Z7 w ok v l)(hf:HFit l)(hne:l ≠ []) :
  Calls lA 40 #[v] w fun e w'=>∃ V,e=.returned V/\w'.ownsRow w.heap.size 47 32 V l.length (Zy l)/\Below w.heap.size w w':=by
 obtain⟨A,c,rfl,hc,hr⟩:=h;have hl:=hf.len;have hlen:=iD (Vx hf.ok);have hone:=iD (Z00 l);have hq:=fun w=>Lib.run_eql_slice_nil (P:=lA) w 37 47 A l.length c 0 0 underlying37;obtain⟨ad,rfl,_⟩:=hr (by rw[hlen.out];have:=lO.2 hne;omega);have hrd:Hid (Rd (w.alloc (.cells #[] 47)) (fun b=>b<w.heap.size) (some ad) (Zy l)):=iD (hr.stay (fun b _ hlt=>lP _ _ _ hlt) (fun b _ hlt=>hlt));have hown:=iD (Z59 w 47 32);have hb0:Hid (Below w.heap.size w (w.alloc (.cells #[] 47))):=iD bL;clear hr hf;go_enter func40,ntmps40;go_wp2_with (at_builtin;refine X0 _ rfl (.tmp 5) (.tmp 6) 37 rfl w.heap.size 47 (.agg Z3.toArray) 32 32 underlying37 Z30 (.slice (some ⟨w.heap.size,0,none⟩) 0 0) 0 [] rfl hown.out (fun b=>b<w.heap.size) (some ad) l.length c (Zy l) rfl hlen.out hrd.out hone.out (by unfold maxLen;omega) (by omega) (by simp) ?_;intro v' w2 hrow2 hg2 hv2;replace hrow2:=iD hrow2;replace hg2:=iD hg2;obtain⟨VA,vc,rfl,_,_⟩:=Z6 hrow2.out;go_frame);go_ret;refine⟨_,rfl,by have:=hrow2.out;simpa using this,?_⟩;exact hb0.out.trans (Yd hown.out hg2.out (by simp))
theorem Zjx(rb:Nat)(d br v:Value)(T:Tab)(n:Str)(ok:Nat->Prop)(w:World)(hB:Blk w rb 164 [d,v,br])(h:TabIs w ok v T)(hf:TFit T)(hs:sorted T)(hne:Z4 T n ≠ []) :
  Calls lA 31 #[.pointer (some ⟨rb,0,none⟩),Z0 n] w fun e w'=>∃ u,e=.returned (.tuple #[u,.bool true])/\w'.ownsRow w.heap.size 47 32 u (Z4 T n).length (Zy (Z4 T n))/\Below w.heap.size w w':=by
 obtain⟨u,hu,hst⟩:=Z57 T v n ok w h hf.len hs;have hst:=iD (hst w (lD _ _));have hcl:=iD (fun W (hb:Below w.heap.size w W)=>Zjw (Z4 T n) u ok W (hu.stayB hb) (Z2z hf n) hne);obtain⟨A,c,rfl,hc⟩:=h.form;obtain⟨UA,uc,rfl,huc,_⟩:=id hu;have h1:=hB.cell 1;obtain⟨l,hl⟩:∃ l,l=Z4 T n:=⟨_,rfl⟩;rw[<-hl] at hst hcl hne ⊢;have hdt:decide (0<l.length)=true:=decide_eq_true (lO.2 hne);unfold Z0 at hst ⊢;clear hu h hl;go_enter func31,ntmps31;go_wp2_with (first
  | (go_at_call 89;(with_reducible refine hst.out.mono ?_);rintro e w2 ⟨rfl,hb2⟩)
  | (go_at_call 40;(with_reducible refine (hcl.out _ hb2).mono ?_);rintro e w3 ⟨x,rfl,hx,hb3⟩;obtain⟨XA,xc,rfl,_,_⟩:=Z6 hx;replace hx:=iD hx))
 refine bodyPost_ret (results_tmp2 rfl _ _ _) rfl ?_;refine⟨_,?_,Oh hb2.size hx.out,hb2.trans (hb3.mono hb2.size)⟩;rfl
theorem Zjy(r:Nat)(l:Value)(by_ rb g:Nat)(a n:Str)(br:Bool)(d b v:Value)(T:Tab)(ok:Nat->Prop)(w:World)(hR:Blk w r 32 (Xv l by_ rb g a br))(hB:Blk w rb 164 [d,v,b])(h:TabIs w ok v T)(hf:TFit T)(hs:sorted T)(hg:Z4 T n ≠ []) :
  Calls lA 20 #[.pointer (some ⟨r,0,none⟩),Z0 n] w fun e w'=>∃ u,e=.returned (.tuple #[u,.int .i64 0])/\w'.ownsRow w.heap.size 47 32 u (Z4 T n).length (Zy (Z4 T n))/\Below w.heap.size w w':=by
 have hm:=iD (Z1u r l by_ rb g a br w hR);have hget:=Zjx rb d b v T n ok w hB h hf hs hg;obtain⟨hs',hhs⟩:∃ hs',hs'=Z4 T n:=⟨_,rfl⟩;rw[<-hhs] at hget ⊢;clear hhs;unfold Z0 at hget ⊢;replace hget:=iD hget;have c2:w.cell? ⟨r,2,none⟩=some (.pointer (some ⟨rb,0,none⟩)):=hR.cell 2;clear hR hB h hf;go_enter func20,ntmps20;go_wp2_with fail;refine hm.out.mono ?_;rintro e w1 ⟨rfl,rfl⟩;go_wp2_with fail;refine hget.out.mono ?_;rintro e w2 ⟨V,rfl,ho,hb⟩;obtain⟨VA,vc,rfl,_⟩:=Z6 ho;replace ho:=iD ho;go_wp2_with fail;go_returns;exact⟨.slice VA hs'.length vc,rfl,ho.out,hb⟩
end
section
set_option maxHeartbeats 2000000
open Go.Lib renaming hid → iD
open Go.Proofs.Tryz
open Go.RowKit Go.Maps Go.Sort
def Z1v:List Value:=[.map none,.map none,.slice none 0 0,.int .i64 0,.int .i64 0,.bool false]
theorem Zau:(lA.info? 64).map (·.size)=some 6:=by kernel_rfl
def Zk4(w:World)(S:DS)(e:Ending)(w':World):Prop:=∃ g L,e=.returned (.pointer (some ⟨g,0,none⟩))/\J4 w' L g S/\(∀ i ∈ L,w.heap.size<=i)/\Below w.heap.size w w'
theorem Zk5(g bn bs:Nat)(v:Value)(S:DS)(w:World)(h:DiskAt w g bn bs v S)(hp:S.pend.length<=4398046511104):Calls lA 71 #[.pointer (some ⟨g,0,none⟩)] w (Zk4 w S):=by
 have hm:=iD (Z60 g bn bs v S w h);obtain⟨vs,hrow,hops⟩:=h.row;obtain⟨VA,vc,rfl,hvc1,hvc2⟩:=Z6 hrow;have hone:Hid (∀ u ∈ vs,u.oneCell'=true):=iD (fun u hu=>by
  obtain⟨i,hi,rfl⟩:=List.getElem_of_mem hu;have hi2:i<S.pend.length:=by have:=hops.1;omega
  exact (hops.2 i _ _ (lQ hi2) (lQ hi)).one)
 have hB:=iD h.blk;have hlen:Hid ((Uf bn bs (.slice VA S.pend.length vc) S).length=6):=iD rfl;have h1c:Hid (∀ u ∈ Uf bn bs (.slice VA S.pend.length vc) S,u.oneCell'=true):=iD (by simp[Uf,Value.oneCell']);replace hrow:=iD hrow;replace hops:=iD hops;replace h:=iD h;go_enter func71,ntmps71;go_wp2_with fail;refine hm.out.mono ?_;rintro e w1 ⟨rfl,rfl⟩;obtain⟨cs,hcs⟩:∃ cs,cs=Uf bn bs (.slice VA S.pend.length vc) S:=⟨_,rfl⟩;rw[<-hcs] at hB hlen h1c;replace hcs:=iD hcs;go_wp2_with (first
  | (refine Y0 rfl 64 (.tmp 8) rfl g rfl 64 cs hB.out _ underlying64 rfl (by rw[hlen.out];exact Zau) ?_)
  | (refine Zo rfl 64 (.tmp 3) (.tmp 9) rfl w.heap.size cs rfl rfl 64 Z1v (Blk.new_at rfl) (by rw[hlen.out];rfl) (by rw[hlen.out];exact Zau) h1c.out ?_))
 go_frame;have hb1:Below w.heap.size w ((w.alloc (.cells Z1v.toArray 64)).setRow w.heap.size cs.toArray):=below_setRow bL (lE _) _;have hC1:Blk ((w.alloc (.cells Z1v.toArray 64)).setRow w.heap.size cs.toArray) w.heap.size 64 cs:=(Blk.new_at rfl).setRow_same _
 change Code.wp lA _ _ _ ((w.alloc (.cells Z1v.toArray 64)).setRow w.heap.size cs.toArray)
 generalize (w.alloc (.cells Z1v.toArray 64)).setRow w.heap.size cs.toArray=w1 at hb1 hC1 ⊢;have hd1:=h.out.below hb1;have c0:w1.cell? ⟨g,0,none⟩=some (.map (some bn)):=by rw[hd1.blk.cell];rfl
 have c1:w1.cell? ⟨g,1,none⟩=some (.map (some bs)):=by rw[hd1.blk.cell];rfl
 have c2:w1.cell? ⟨g,2,none⟩=some (.slice VA S.pend.length vc):=by rw[hd1.blk.cell];rfl
 have hgl:g<w1.heap.size:=hd1.blk.lt;have hcl:w.heap.size<w1.heap.size:=hC1.lt;obtain⟨gc,hgc⟩:∃ gc,gc=w.heap.size:=⟨_,rfl⟩;rw[<-hgc] at hC1 hcl ⊢;replace hgc:=iD hgc;replace hd1:=iD hd1;replace hb1:=iD hb1;replace hC1:=iD hC1;have hgne:g ≠ gc:=by rw[hgc.out];have:=h.out.blk.lt;omega
 have hgne':gc ≠ g:=fun e=>hgne e.symm;have hMn:Hid (Zq w1.drew bn S.now):=iD hd1.out.now;have hMs:Hid (∀ w2,Below w1.drew.heap.size w1.drew w2->Zq w2 bs S.sure):=iD (fun w2 hb=>hd1.out.sure.block (hb.block bs hd1.out.sure.lt));have hRo:Hid (∀ w2,Below w1.drew.heap.size w1.drew w2->w2.ownsRow 0 224 1 (.slice VA S.pend.length vc) S.pend.length vs):=iD (fun w2 hb=>Zk (L:=[]) (Zk (L:=[]) hrow.out (Touch.ofBelow hb1.out) (by simp)) ((Touch.drewN 1).trans (Touch.ofBelow (L:=[]) hb) (by simp)) (by simp));have hcc:Hid (∀ w2,Below w1.drew.heap.size w1.drew w2->w2.cell? ⟨g,0,none⟩=some (.map (some bn))/\w2.cell? ⟨g,1,none⟩=some (.map (some bs))/\w2.cell? ⟨g,2,none⟩=some (.slice VA S.pend.length vc)):=iD (fun w2 hb=>⟨(hb.cell (p:=⟨g,0,none⟩) hgl).trans c0,(hb.cell (p:=⟨g,1,none⟩) hgl).trans c1,(hb.cell (p:=⟨g,2,none⟩) hgl).trans c2⟩);have hst:Hid (∀ w2,Below w1.drew.heap.size w1.drew w2->(w2.cell? ⟨gc,0,none⟩=some (.map (some bn))/\w2.cell? ⟨gc,1,none⟩=some (.map (some bs))/\w2.cell? ⟨gc,2,none⟩=some (.slice VA S.pend.length vc))/\w2.frozen? ⟨gc,0,none⟩=false/\w2.frozen? ⟨gc,1,none⟩=false/\w2.frozen? ⟨gc,2,none⟩=false):=iD (fun w2 hb=>by
  have hC2:Blk w2 gc 64 cs:=(hb.block gc hcl).trans hC1.out;refine⟨⟨?_,?_,?_⟩,hC2.frozen 0,hC2.frozen 1,hC2.frozen 2⟩
  ·rw[hC2.cell,hcs.out];rfl
  ·rw[hC2.cell,hcs.out];rfl
  ·rw[hC2.cell,hcs.out];rfl)
 go_region_held3 (fun w'=>w'.cell? ⟨g,0,none⟩=some (.map (some bn))/\w'.cell? ⟨g,1,none⟩=some (.map (some bs))/\w'.cell? ⟨g,2,none⟩=some (.slice VA S.pend.length vc)) (first | exact hcc.out _ hb4.out | exact hcc.out _ hb3.out | exact hcc.out _ hb2.out | go_keep)
  (first
   | (go_at_call 121;with_reducible refine (Z5y _ bn _ hMn.out).mono ?_;rintro e w2 ⟨rfl,hm2,hb2⟩;replace hm2:=iD hm2;replace hb2:=iD hb2)
   | (go_at_call 121;with_reducible refine (Z5y _ bs _ (hMs.out _ hb2.out)).mono ?_;rintro e w3 ⟨rfl,hm3,hb3'⟩;have hb3:=iD (hb2.out.trans (hb3'.mono hb2.out.size));replace hm3:=iD hm3;replace hb3':=iD hb3')
   | (go_at_call 140;with_reducible refine (Zk2 _ _ _ _ (hRo.out _ hb3.out) hone.out hp).mono ?_;rintro e w4 ⟨v4,rfl,hr4,hb4'⟩;have hb4:=iD (hb3.out.trans (hb4'.mono hb3.out.size));obtain⟨VA4,vc4,rfl,_,_⟩:=Z6 hr4;obtain⟨⟨y0,y1,y2⟩,z0,z1,z2⟩:=hst.out _ hb4.out;obtain⟨d0,d1,d2⟩:=hcc.out _ hb4.out;replace hr4:=iD hr4;replace hb4':=iD hb4'))
 clear y0 y1 y2 z0 z1 z2 d0 d1 d2 c0 c1 c2;go_wp2;go_ret;have s1:w1.heap.size<w2.heap.size:=hm2.out.lt;have s2:w2.heap.size<w3.heap.size:=hm3.out.lt;have s3:=hb4'.out.size;have s4:=hb1.out.size;have hC4:Blk w4 gc 64 (Uf bn bs (.slice VA S.pend.length vc) S):=by
  have:=(hb4.out.block gc hcl).trans hC1.out;rw[hcs.out] at this;exact this
 have ht5:Touch [gc] w4 (((w4.setCell ⟨gc,0,none⟩ (.map (some w1.heap.size))).setCell ⟨gc,1,none⟩ (.map (some w2.heap.size))).setCell ⟨gc,2,none⟩ (.slice VA4 S.pend.length vc4)) :=
  ((Touch.setCell _ (by simp)).trans (Touch.setCell _ (by simp)) (fun i hi=>.inl hi)).trans (Touch.setCell _ (by simp)) (fun i hi=>.inl hi)
 have hmn:Zq w2 w1.heap.size S.now:=hm2.out;have hmn4:Zq w4 w1.heap.size S.now:=(hmn.block (hb3'.out.block _ (by omega))).block (hb4'.out.block _ (by omega));have hms4:Zq w4 w2.heap.size S.sure:=hm3.out.block (hb4'.out.block _ (by omega));have hbw4:Below w.heap.size w w4:=hb1.out.trans ((show Below w1.heap.size w1 w4 from ⟨hb4.out.os,hb4.out.tape,hb4.out.output,hb4.out.size,hb4.out.block⟩).mono hb1.out.size);have hops4:Vs w4 S.pend vs:=hops.out.touch (L:=[]) (Touch.ofBelow hbw4) (by simp[Qu]);have hr4':w4.ownsRow 0 224 1 (.slice VA4 S.pend.length vc4) S.pend.length vs:=by
  obtain⟨e1,e2⟩:=hr4.out;refine⟨e1,?_⟩;rcases e2 with e2 | ⟨gx,cap,cur,e3,_,e4⟩
  ·exact .inl e2
  ·exact .inr ⟨gx,cap,cur,e3,Nat.zero_le _,e4⟩
 have hfr:∀ b,(Value.slice VA4 S.pend.length vc4).ownBlock=some b->w3.heap.size<=b:=fun b hb=>(hr4.out.lt b hb).1;refine⟨gc,Zh gc w1.heap.size w2.heap.size (.slice VA4 S.pend.length vc4),rfl,⟨_,_,_,⟨((hC4.set_ 0 _).set_ 1 _).set_ 2 _,hmn4.touch ht5 (by simp;omega),hms4.touch ht5 (by simp;omega),by omega,vs,Zk hr4' ht5 (fun b hb=>by have:=hfr b hb;simp;omega),hops4.touch ht5 (fun i hi cs hc=>?_)⟩,rfl⟩,?_,?_⟩
 ·have : i=gc:=by simpa using hi
  subst this;exact hC4.ne_ hc (by decide) rfl
 ·intro i hi;have hgc':=hgc.out;rcases DiskAt.mem_foot hi with rfl | rfl | rfl | e
  ·omega
  ·omega
  ·omega
  ·have:=hfr i e;omega
 ·exact hbw4.trans (ht5.below (Nat.le_trans (by omega) hbw4.size) (fun i hi=>by have : i=gc:=(by simpa using hi);have:=hgc.out;omega))
end
section
set_option maxRecDepth 100000
set_option maxHeartbeats 4000000
open Go.Lib renaming hid → iD
open Go.Proofs.Tryz
open Go.RowKit
theorem Zk6(A:Option Addr)(c:Nat)(f:Value)(w:World):Calls lA 247 #[.slice A 0 c,.int .i64 0,.int .i64 0,f] w fun e w'=>e=.returned (.tuple #[])/\Below w.heap.size w w':=by
 go_enter func247,ntmps247;go_wp2;go_rounds 1;refine lG (v:=.tuple #[]) (lF (by rfl) _ _ _) rfl ⟨rfl,lD _ _⟩
theorem Zk7(A:Option Addr)(c:Nat)(f n:Value)(w:World):Calls lA 203 #[.slice A 0 c,.int .i64 0,.int .i64 0,n,f] w fun e w'=>e=.returned (.tuple #[])/\Below w.heap.size w w':=by
 have hc:=iD (Zk6 A c f w);go_enter func203,ntmps203;go_wp2_with fail;refine lC 1 ?_;rw[lB];go_wp2_with fail;refine hc.out.mono ?_;rintro e W ⟨rfl,hb⟩;go_wp2_with fail;exact bodyPost_ret (v:=.tuple #[]) (lF (by rfl) _ _ _) rfl ⟨rfl,hb⟩
theorem Zk8(A:Option Addr)(c:Nat)(f:Value)(w:World):Calls lA 145 #[.slice A 0 c,f] w fun e w'=>e=.returned (.tuple #[])/\Below w.heap.size w w':=by
 have hc:=iD (fun n=>Zk7 A c f n w);have hl:=iD (Tryz.bits_Len 0 w (by omega) (by omega));go_enter func145,ntmps145;go_wp2_with fail;refine hl.out.mono ?_;rintro e W ⟨rfl,rfl⟩;go_wp2_with fail;refine (hc.out _).mono ?_;rintro e W1 ⟨rfl,hb⟩;go_wp2_with fail;exact lG (v:=.tuple #[]) (lF (by rfl) _ _ _) rfl ⟨rfl,hb⟩
theorem Zk9(A:Option Addr)(c:Nat)(f:Value)(w:World):Calls lA 188 #[.slice A 0 c,f] w fun e w'=>e=.returned (.int .i64 (-1))/\Below w.heap.size w w':=by
 go_enter func188,ntmps188;go_wp2_with fail;refine lC 1 ?_;rw[lB];go_wp2_with fail;go_returns;exact⟨rfl,lD _ _⟩
theorem Zka(A:Option Addr)(c:Nat)(f:Value)(w:World):Calls lA 123 #[.slice A 0 c,f] w fun e w'=>e=.returned (.slice A 0 c)/\Below w.heap.size w w':=by
 have hi:=iD (Zk9 A c f w);go_enter func123,ntmps123;go_wp2_with fail;refine hi.out.mono ?_;rintro e W ⟨rfl,hb⟩;go_wp2_with fail;go_returns;exact⟨rfl,hb⟩
theorem Zkb(g bn bs:Nat)(v:Value)(S:DS)(w:World)(h:DiskAt w g bn bs v S)(ho:S.off=false)(hl:Zs S.now=0) :
  Calls lA 73 #[.pointer (some ⟨g,0,none⟩)] w fun e w'=>∃ b,e=.returned (.tuple #[.map (some b),.int .i64 0])/\Zg w' b []/\w.heap.size<=b/\Below w.heap.size w w':=by
 have hmm:=@run_makeMap lA;have hn:=iD (fun W (hb:Below w.heap.size w W)=>Zk3 g bn bs v S W (h.below hb) ho (by omega));have hnl:(Ud S.now).length=0:=by rw[Zfa,hl]
 clear h;go_enter func73,ntmps73;go_wp2_with fail;generalize hW1:World.alloc (w.alloc _) (Obj.cells _ 122)=w1;have hb1:Below w.heap.size w w1:=by rw[<-hW1];exact bL.alloc (by simp) _
 have hB1:Blk w1 (w.heap.size+1) 122 [.map (some w.heap.size)]:=by rw[<-hW1];exact Blk.new_at (cs:=[.map (some w.heap.size)]) (by simp)
 have hM1:Zg w1 w.heap.size []:=by rw[<-hW1];exact (Zg.new_at rfl).alloc _
 clear hW1;refine (hn.out w1 hb1).mono ?_;rintro e W ⟨V,rfl,hrow,hb⟩;rw[hnl] at hrow;obtain⟨FA,fc,rfl,_,_⟩:=Z6 hrow;have hb2:=hb1.trans (hb.mono hb1.size);have hB2:=hB1.below hb hB1.lt;have hM2:=hM1.below hb hM1.lt;clear hrow hb hb1 hB1 hM1;go_wp2_with fail;refine (Zka _ _ _ _).mono ?_;rintro e W3 ⟨rfl,hb⟩;have hb3:=hb2.trans (hb.mono hb2.size);have hB3:=hB2.below hb hB2.lt;have hM3:=hM2.below hb hM2.lt;clear hb hb2 hB2 hM2;go_wp2_with fail;refine (Zk8 _ _ _ _).mono ?_;rintro e W4 ⟨rfl,hb⟩;have hb4:=hb3.trans (hb.mono hb3.size);have hB4:=hB3.below hb hB3.lt;have hM4:=hM3.below hb hM3.lt;clear hb hb3 hB3 hM3;have c4:W4.cell? ⟨w.heap.size+1,0,none⟩=some (.map (some w.heap.size)):=hB4.cell 0;replace hb4:=iD hb4;replace hM4:=iD hM4;clear hB4;go_wp2_with fail;refine lC 1 ?_;rw[lB];go_wp2_with fail;go_returns;exact⟨_,rfl,hM4.out,lE _,hb4.out⟩
theorem Zkc(p:Value)(b:Nat)(w:World)(h:Zg w b []) :
  Calls lA 74 #[p,.map (some b)] w fun e w'=>e=.returned (.tuple #[])/\Below w.heap.size w w':=by
 obtain⟨ck,hrg,hnx⟩:=Zfy underlying122 h;clear h;go_enter func74,ntmps74;go_wp2_with fail;refine lC 2 ?_;rw[lB];go_wp2_with fail;refine lC 1 ?_;rw[lB];go_wp2_with fail;rw[lB];go_wp2_with fail;exact lG (v:=.tuple #[]) (lF (by rfl) _ _ _) rfl ⟨rfl,bL⟩
theorem Zkd{S:DS}(h:Live S none)(s:Str):Zw S.now s=false:=by
 have hl:Zs S.now=0:=h.holds.len;cases hb:Zw S.now s with
 | false=>rfl
 | true =>
  have h1:=Z2l (k:=s) h.holds.map;rw[hb] at h1;simp at h1;omega
def Gg:Str:=[112,97,99,107,46,110,101,119]
theorem Zav{S:DS}(h:Live S none):(Call.remove Gg).errno S=5/\(Call.remove Gg).turn S=S:=by
 have e:(Call.remove Gg).err S=5:=by
  show (if Y1 Gg=true then (if Zw S.now Gg=true then (0:Int) else 5) else 11)=5;rw[if_pos (by decide),Zkd h];rfl
 refine⟨(Z1q _ h.off h.fuse).trans e,?_⟩;rw[Z1r _ h.off h.fuse,e];rfl
end
section
open Go.RowKit Go.Maps Go.MapKept Go.ChangeMaps
section
variable {P:Program} {w:World} {b r:Nat} {es left:List (Value × Value)} {k e t:TypeId} {ok:Value->Prop} {key:Value}
abbrev kv(x:MapEntry):Value × Value:=(x.key,x.val)
def Yn(w:World)(b:Nat)(es:List (Value × Value)):Prop:=∃ xs clock,w.heap[b]?=some (.map xs clock)/\xs.toList.map kv=es/\(∀ x ∈ xs.toList,x.born<clock)/\(xs.toList.map (·.born)).Nodup
theorem Yn.v(h:Yn w b es):Zg w b es:=by
 obtain⟨xs,clock,h1,h2,_⟩:=h;exact⟨xs,clock,h1,h2⟩
theorem Yn.block{w':World}(h:Yn w b es)(hb:w'.heap[b]?=w.heap[b]?):Yn w' b es:=by
 obtain⟨xs,clock,h1,h2⟩:=h;exact⟨xs,clock,hb.trans h1,h2⟩
theorem Yn.lt(h:Yn w b es):b<w.heap.size:=h.v.lt
theorem Yn.below{w':World}{B:Nat}(h:Yn w b es)(hb:Below B w w')(hl:b<B):Yn w' b es:=h.block (hb.block b hl)
theorem Yn.store(h:Yn w b es)(K:KeyOk P k ok)(ht:P.underlying t=some (.map k e))(hes:∀ p ∈ es,ok p.1)(hk:ok key)(hn:∀ p ∈ es,p.1 ≠ key)(v:Value) :
  ∃ w',(lR t (.map (some b)) key v).run P w=.ok () w'/\Yn w' b (es++[(key,v)])/\w.mapTurned w' b:=by
 obtain⟨xs,clock,hb,h2,h3,h4⟩:=h;rcases K.find w key hk xs.toList (Z16 h2 hes) with ⟨h1,_⟩ | ⟨j,x,_,h3,h4⟩
 ·refine⟨setBlock w b (.map (xs.push ⟨key,v,clock⟩) (clock+1)),?_,⟨xs.push ⟨key,v,clock⟩,clock+1,?_,?_,?_,?_⟩,⟨xs,clock,_,_,hb,rfl⟩⟩
  ·simp[lR,run_underlying ht,MapKept.run_getObj_map hb,K.check w false key hk,h1,MapKept.run_setObj_map _ hb,lI,setBlock]
  ·obtain⟨hl,_⟩:=lS.1 hb;simp[setBlock,hl]
  ·simp[h2]
  ·intro x hx;simp only[Array.toList_push,List.mem_append,lT] at hx;rcases hx with hx | rfl
   ·have:=h3 x hx;omega
   ·simp
  ·simp only[Array.toList_push,lU,lL,lN];refine lV.2 ⟨h4,by simp,?_⟩;intro a ha c hc;simp only[lT] at hc;obtain⟨x,hx,rfl⟩:=lJ.1 ha;have:=h3 x hx;omega
 ·exact absurd h4 (hn (x.key,x.val) (by rw[<-h2];exact lJ.2 ⟨x,List.mem_of_getElem? h3,rfl⟩))
def ItW(w:World)(r b:Nat)(es left:List (Value × Value)):Prop:=∃ xs clock since seen c0,w.heap[b]?=some (.map xs clock)/\xs.toList.map kv=es/\(∀ x ∈ xs.toList,x.born<clock)/\(xs.toList.map (·.born)).Nodup /\
 w.heap[r]?=some (.mapIter (some b) since seen c0)/\(∀ x ∈ xs.toList,x.born<since)/\since<=c0/\since<=clock/\left=(leftOf xs seen).toList.map kv
theorem ItW.map(h:ItW w r b es left):Yn w b es:=by
 obtain⟨xs,clock,_,_,_,h1,h2,h3,h4,_⟩:=h;exact⟨xs,clock,h1,h2,h3,h4⟩
theorem ItW.ne(h:ItW w r b es left):r ≠ b:=by
 obtain⟨xs,clock,_,_,_,h1,h2,h3,h4,h5,_⟩:=h;rintro rfl;rw[h1] at h5;cases h5
theorem ItW.lt(h:ItW w r b es left):r<w.heap.size:=by
 obtain⟨xs,clock,_,_,_,h1,h2,h3,h4,h5,_⟩:=h;exact (lS.1 h5).1
theorem ItW.kept{w':World}(h:ItW w r b es left)(h1:w'.heap[b]?=w.heap[b]?)(h2:w'.heap[r]?=w.heap[r]?):ItW w' r b es left:=by
 obtain⟨xs,clock,s,n,c,g1,g2,g3,g4,g5,g6⟩:=h;exact⟨xs,clock,s,n,c,h1.trans g1,g2,g3,g4,h2.trans g5,g6⟩
theorem Yn.range(h:Yn w b es)(ht:P.underlying t=some (.map k e)) :
  (Instr.range t (.map (some b))).run P w=.ok (.pointer (some ⟨w.heap.size,0,none⟩)) (w.alloc (.mapIter (some b) (match w.heap[b]? with | some (.map _ c)=>c | _=>0) #[] (match w.heap[b]? with | some (.map _ c)=>c | _=>0))) /\
  ItW (w.alloc (.mapIter (some b) (match w.heap[b]? with | some (.map _ c)=>c | _=>0) #[] (match w.heap[b]? with | some (.map _ c)=>c | _=>0))) w.heap.size b es es:=by
 have hlt:=h.lt;obtain⟨xs,clock,h1,h2,h3,h4⟩:=h;rw[h1];refine⟨run_range_map w t k e b xs clock ht h1,xs,clock,clock,#[],clock,(lP _ _ _ hlt).trans h1,h2,h3,h4,World.alloc_heap_new _ _,h3,lE _,lE _,?_⟩;rw[<-h2];unfold leftOf;rw[lK,lM.2 (by simp)]
theorem Zkg{l pre post:List MapEntry}{x:MapEntry}(hl:l=pre++x :: post)(hn:(l.map (·.born)).Nodup):l.filter (fun y=>!(y.born == x.born))=pre++post:=by
 subst hl;rw[lU,lL] at hn;obtain⟨_,h2,h3⟩:=lV.1 hn;have h4:=List.nodup_cons.1 h2;rw[List.filter_append,List.filter_cons_of_neg (by simp),lM.2,lM.2]
 ·intro y hy;have : y.born ≠ x.born:=fun he=>h4.1 (by rw[<-he];exact lJ.2 ⟨y,hy,rfl⟩);simpa using this
 ·intro y hy;have : y.born ≠ x.born:=h3 _ (lJ.2 ⟨y,hy,rfl⟩) _ (by simp);simpa using this
theorem ItW.next(h:ItW w r b es left)(ty:TypeId) :
  (left=[]/\(lW (.pointer (some ⟨r,0,none⟩)) false ty).run P w=.ok (.tuple #[.bool false]) w) ∨
  ∃ pre p post w',left=pre++p :: post/\(lW (.pointer (some ⟨r,0,none⟩)) false ty).run P w=.ok (.tuple #[.bool true,p.1,p.2]) w'/\ItW w' r b es (pre++post)/\w.grownBy w' (some r)/\w'.heap.size=w.heap.size /\
   (Instr.entry (.pointer (some ⟨r,0,none⟩))).run P w'=.ok (.tuple #[p.1,p.2]) w':=by
 have hne:=h.ne;obtain⟨xs,clock,since,seen,c0,hb,h2,h3,h4,hr,hold,hsc,hsk,rfl⟩:=h;rcases run_next_at (P:=P) w ty r b since c0 seen xs clock hr hb hold hsc with ⟨h0,hrun⟩ | ⟨x,hx,w1,hal,hrun⟩
 ·refine .inl ⟨?_,hrun⟩;rw[Array.eq_empty_of_size_eq_zero h0];rfl
 ·obtain⟨hem,hes⟩:=mem_left hx;obtain⟨pre,post,hpp⟩:=List.append_of_mem hx;have hr1:w1.heap[r]?=some (.mapIter (some b) since seen c0):=by rcases hal with rfl | rfl <;> exact hr
  have hb1:w1.heap[b]?=some (.map xs clock):=by rcases hal with rfl | rfl <;> exact hb
  have hset:=heap_set (o':=.mapIter (some b) since (seen.push x.born) clock) hr1;have hb':(setBlock w1 r (.mapIter (some b) since (seen.push x.born) clock)).heap[b]?=some (.map xs clock):=(hset.2 b (fun e1=>hne e1.symm)).trans hb1;have hL:(leftOf xs (seen.push x.born)).toList=pre++post:=by
   have e1:(leftOf xs (seen.push x.born)).toList=((leftOf xs seen).toList).filter (fun y=>!(y.born == x.born)):=by
    unfold leftOf;rw[lK,lK,List.filter_filter]
    congr 1
    funext y
    rw[contains_push];cases seen.contains y.born <;> cases (y.born == x.born) <;> rfl
   rw[e1];refine Zkg hpp ?_;unfold leftOf;rw[lK];exact (List.filter_sublist.map _).nodup h4
  refine .inr ⟨pre.map kv,kv x,post.map kv,_,by rw[hpp];simp,hrun,⟨xs,clock,since,seen.push x.born,clock,hb',h2,h3,h4,hset.1,hold,hsk,hsk,by rw[hL];simp⟩,?_,?_,run_entry_at _ r b since seen xs clock x hset.1 hb' hem h4⟩
  ·rcases hal with rfl | rfl <;> exact⟨rfl,rfl,rfl,by simp[setBlock],fun i _ hi=>hset.2 i (fun e1=>hi (by rw[e1]))⟩
  ·rcases hal with rfl | rfl <;> simp[setBlock]
theorem Zkh{ops:Array Oper}{rest:List Oper}{o:Oper}{a:Act}{Q:Exit->Act->World->Prop}(hg:o.guard=none)(m:Operand)(t:TypeId)(hop:o.op=Op.range t m)(k e:TypeId)(ht:P.underlying t=some (.map k e))(b:Nat)(es:List (Value × Value))
  (hm:a.eval m=.map (some b)) (h:Yn w b es)
  (hK:∀ w',ItW w' w.heap.size b es es->Below w.heap.size w w'->wpList P ops Q rest (a.put o.dst (.pointer (some ⟨w.heap.size,0,none⟩))) w'):wpList P ops Q (o :: rest) a w:=by
 refine wpList_plain hg fun K' hK'=>?_;obtain⟨hrun,h2⟩:=h.range (P:=P) ht;unfold Oper.wp;simp[execOp,hop,hm,hrun,lI];exact hK' _ _ (hK _ h2 bL)
theorem Zaz{ops:Array Oper}{rest:List Oper}{o:Oper}{a:Act}{Q:Exit->Act->World->Prop}(hg:o.guard=none)(it:Operand)(hop:o.op=Op.next it false)(r b:Nat)(es left:List (Value × Value))
  (hit:a.eval it=.pointer (some ⟨r,0,none⟩)) (h:ItW w r b es left)
  (hDone:left=[]->wpList P ops Q rest (a.put o.dst (.tuple #[.bool false])) w)
  (hMore:∀ pre p post w',left=pre++p :: post->ItW w' r b es (pre++post)->Touch [r] w w'->(Instr.entry (.pointer (some ⟨r,0,none⟩))).run P w'=.ok (.tuple #[p.1,p.2]) w'->wpList P ops Q rest (a.put o.dst (.tuple #[.bool true,p.1,p.2])) w') :
  wpList P ops Q (o :: rest) a w:=by
 refine wpList_plain hg fun K' hK'=>?_;unfold Oper.wp;rcases h.next (P:=P) o.type with ⟨h0,hrun⟩ | ⟨pre,p,post,w',hl,hrun,hi,hgr,hsz,hen⟩
 ·simp[execOp,hop,hit,hrun,lI];exact hK' _ _ (hDone h0)
 ·simp[execOp,hop,hit,hrun,lI];exact hK' _ _ (hMore pre p post w' hl hi (Touch.grown hgr (by simp)) hen)
end
end
section

end
section
open Go.RowKit
theorem Zki(d:Str)(hd:d.length=32)(w:World):(Instr.buildSlice 37 1 #[(0,.agg (d.map B).toArray)]).run lA w=.ok (.slice (some ⟨w.heap.size,0,none⟩) 1 1) (w.alloc (.cells (d.map B).toArray 47)):=by
 iterate 32 (rcases d with _ | ⟨_,d⟩;· (exfalso;simp at hd;done))
 obtain rfl:d=[]:=by
  simp only[List.length_cons] at hd;exact List.length_eq_zero_iff.1 (by omega)
 kernel_rfl
end
end Go.Proofs.YtfdimggmljkkbaaGreatDoor
