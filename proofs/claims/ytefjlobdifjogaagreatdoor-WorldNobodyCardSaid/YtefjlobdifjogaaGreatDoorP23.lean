import Derived.Test.YtefjlobdifjogaaGreatDoorP22
open Go renaming wpQuiet_nil → lC
open Go.Proofs.Tryz renaming prog → lA
open Go.RowKit.Below renaming refl → lI
open Go.World renaming setCell → lD, cell? → lJ
open List renaming getElem?_eq_getElem → lB, getElem?_eq_none → lE, take_append_drop → lF, getElem?_cons_zero → lG
open Nat renaming lt_of_lt_of_le → lK
open Option.some renaming injEq → lH
namespace Go.Proofs.YtefjlobdifjogaaGreatDoor
section
set_option maxRecDepth 100000
set_option maxHeartbeats 8000000
open Go.Lib renaming hid → iD
open Go.Proofs.Tryz
open Go.RowKit
def Xo(ses:Int)(name:Str):PMsg:=⟨1,ses,name,[],[],[],0⟩
theorem Zay{ses:Int}{name:Str}(hs:0<=ses)(hn:Z6 name=true):Yc (Xo ses name)=0:=by
 refine may0 ?_ hn (by simp[Xo]) (by simp[Xo]) ?_
 ·simp only[Xo];omega
 ·simp[Z2s,Xo,Vo,Jp,Kg]
theorem Zaz{ses:Int}{name:Str}(hs:ses<128 ^ 9):MFit (Xo ses name):=⟨by simp[Xo],hs,by simp[Xo],by simp[Xo],by simp[Xo]⟩
theorem Zb0(r:Nat)(ses:Int)(name:Str)(l:Value)(by_ rb g:Nat)(a:Str)(br:Bool)(d b v:Value)(ok:Nat->Prop)(w:World)(hR:Blk w r 47 (Y1 l by_ rb g a br))(hB:Blk w rb 267 [d,v,b])(h:TabIs w ok v [])
  (hs:0<=ses) (hs9:ses<9223372036854775807) (hn:Z6 name=true) (ht:Z6 (64 :: name)=true) (hK:Zm w) :
  Calls lA 17 #[.pointer (some ⟨r,0,none⟩),.int .i64 ses,.string ⟨name.toArray⟩] w fun e w'=>∃ cb,e=.returned (.tuple #[.pointer (some ⟨cb,0,none⟩),.int .i64 0])/\Blk w' cb 34 (K0 r ses name (Zs (Xo ses name)) 2 (.func (.func 55) #[.pointer (some ⟨cb,0,none⟩)] #[]) Z0 false 0)/\w.heap.size<=cb/\Below w.heap.size w w':=by
 have hmf:∀ (fn:Fn) (first cap:Array Value) (w:World),(Instr.makeFunc fn first cap).run lA w=.ok (.func fn first cap) w:=fun _ _ _ _=>rfl;have hbe:=iD (Zmb r ses name w hs hn ht (Zax r l by_ rb g a br d b v [] ok w hR hB h ⟨by simp,fun b hb=>absurd hb (by simp)⟩ (by simp[J4]) rfl));have hhe:=iD (fun W (hb:Below w.heap.size w W)=>Zma r l by_ rb g a br d b v ok W (hR.below hb hR.lt) (hB.below hb hB.lt) (h.stayB hb));have hm0:=Zay hs hn;have h9:(128:Int) ^ 9=9223372036854775808:=by decide
 have hwr:=iD (fun o (ok:Nat->Prop) W (ho:Ze W ok o []) hK=>Z5b (Xo ses name) o Z0 ok W (by show (Lit.int .i64 1).wf=true;decide) ho Ze.nil (by have:=Um hn;simp only[Xo];omega) (fun _=>Zaz (by rw[h9];omega)) hK);simp only[hm0,if_true] at hwr;obtain⟨ws,hws⟩:∃ ws,ws=Zs (Xo ses name):=⟨_,rfl⟩;rw[<-hws] at hwr ⊢;clear hR hB h hs hs9 hn ht hm0 h9;replace hws:=iD hws;go_enter func17,ntmps17;go_wp2_with fail;refine hbe.out.mono ?_;rintro e w1 ⟨cb,rfl,hC1,hcb,hb1⟩;have c4:w1.cell? ⟨cb,4,none⟩=some (.int .i64 0):=hC1.cell 4;have c5:w1.cell? ⟨cb,5,none⟩=some .nilFunc:=hC1.cell 5;have f4:=hC1.frozen 4;have f5:=hC1.frozen 5;have hC2:=hC1.set_ 4 (.int .i64 2);have c5':(w1.setCell ⟨cb,4,none⟩ (.int .i64 2)).cell? ⟨cb,5,none⟩=some .nilFunc:=hC2.cell 5;have f5':=hC2.frozen 5;have hC3:=hC2.set_ 5 (.func (.func 55) #[.pointer (some ⟨cb,0,none⟩)] #[]);have hT3:=(Touch.setCell (L:=[cb]) (w:=w1) (g:=cb) (i:=4) (.int .i64 2) (by simp)).trans (Touch.setCell (L:=[cb]) (w:=w1.setCell ⟨cb,4,none⟩ (.int .i64 2)) (g:=cb) (i:=5) (.func (.func 55) #[.pointer (some ⟨cb,0,none⟩)] #[]) (by simp)) (fun i hi=>.inl hi);clear hbe;go_upto_region 5 with fail
 change Blk _ cb 34 (K0 r ses name [] 2 (.func (.func 55) #[.pointer (some ⟨cb,0,none⟩)] #[]) Z0 false 0) at hC3
 generalize lD (lD w1 _ _) _ _=w3 at hC3 hT3 ⊢;have hb03:=hb1.trans (hT3.below hb1.size (by simpa using hcb));clear c4 c5 f4 f5 hC2 c5' f5' hT3 hC1 hb1;replace hC3:=iD hC3;replace hb03:=iD hb03;go_wp2_with fail;refine (hhe.out w3 hb03.out).mono ?_;rintro e w4 ⟨HA,hc,rfl,hb4⟩;have hC4:=hC3.out.below hb4 hC3.out.lt;have hb04:=hb03.out.trans (hb4.mono hb03.out.size);have hwr4:=iD (hwr.out (.slice HA 0 hc) (fun _=>True) w4 ⟨HA,hc,rfl,Nat.zero_le _,fun hp=>absurd hp (by simp[Zv])⟩ (keys_below hK hb04));unfold Zx Xo at hwr4;simp only[] at hwr4;clear hhe hwr hC3 hb03 hb4;replace hC4:=iD hC4;replace hb04:=iD hb04;go_wp2_with fail;refine hwr4.out.mono ?_;rintro e w5 ⟨rfl,hb5⟩;have hC5:=hC4.out.below hb5 hC4.out.lt;have hb05:=hb04.out.trans (hb5.mono hb04.out.size);have c3:w5.cell? ⟨cb,3,none⟩=some (.string ⟨#[]⟩):=hC5.cell 3;have f3:=hC5.frozen 3;have hC6:=hC5.set_ 3 (.string ⟨ws.toArray⟩);have hT6:Touch [cb] w5 (w5.setCell ⟨cb,3,none⟩ (.string ⟨ws.toArray⟩)):=Touch.setCell _ (by simp)
 change Blk _ cb 34 (K0 r ses name ws 2 (.func (.func 55) #[.pointer (some ⟨cb,0,none⟩)] #[]) Z0 false 0) at hC6
 have hb06:=hb05.trans (hT6.below hb05.size (by simpa using hcb));clear hwr4 hC4 hb04 hb5 hC5 hb05;replace hC6:=iD hC6;replace hb06:=iD hb06;go_wp2_with fail;go_returns;exact⟨cb,rfl,hC6.out,hcb,hb06.out⟩
end
section
set_option maxRecDepth 100000
set_option maxHeartbeats 2000000
open Go.Lib renaming hid → iD
open Go.Proofs.Tryz
open Go.RowKit
theorem Zmc(r:Nat)(l:Value)(by_ rb g:Nat)(a n:Str)(br:Bool)(d b v:Value)(ok:Nat->Prop)(w:World)(hR:Blk w r 47 (Y1 l by_ rb g a br))(hB:Blk w rb 267 [d,v,b])(h:TabIs w ok v []) :
  Calls lA 58 #[.pointer (some ⟨r,0,none⟩),.string ⟨n.toArray⟩] w fun e w'=>e=.returned Z0/\Below w.heap.size w w':=by
 have hal:=iD (Z0m r l by_ rb g a br d b v [] ok w hR hB h ⟨by simp,fun b hb=>absurd hb (by simp)⟩);unfold O5 at hal;clear hR hB h;go_enter func58,ntmps58;go_wp2_with fail;refine hal.out.mono ?_;rintro e w1 ⟨v1,rfl,hO,hb1⟩;obtain⟨TA,tc,rfl,_⟩:=hO.tab.form;clear hO hal;go_wp2_with fail;refine wp_loop_rounds 1 ?_;rw[rounds_succ];go_wp2_with fail;go_returns;exact⟨rfl,hb1⟩
theorem Zmd{w:World}{b o:Nat}{cs:List Value}{ds:Str}(hB:Blk w b 59 cs)(hc:∀ j u,(ds.map B)[j]?=some u->w.cell? ⟨b,o+j,none⟩=some u):Xn w b o ds:=by
 refine⟨cs,(cs.drop o).drop (ds.map B).length,hB,?_⟩;have h:(cs.drop o).take (ds.map B).length=ds.map B:=by
  apply List.ext_getElem?;intro j;by_cases hj:j<(ds.map B).length
  ·rw[List.getElem?_take_of_lt hj,List.getElem?_drop];have h1:=hc j _ (lB hj);rw[hB.cell] at h1;rw[h1,lB hj]
  ·rw[lE (by rw[List.length_take];omega),lE (by omega)]
 conv=>lhs;rw[<-lF (ds.map B).length (cs.drop o)]
 rw[h]
theorem Zu.br{w:World}{base:Nat}{A:Option Addr}{n c:Nat}{T:Tab}(h:Zu w base (.slice A n c) T)(k:Nat)(hk:k<T.length):∃ b o u,A=some ⟨b,o,none⟩/\b<w.heap.size/\Ze w (Jx w base) u T[k].heads/\w.cell? ⟨b,o+k*2,none⟩=some (Z1 T[k].name)/\w.cell? ⟨b,o+k*2+1,none⟩=some u:=by
 obtain⟨vs,hl,ho,hh⟩:=h;rcases ho.2 with ⟨_,h0⟩ | ⟨g,cap,cur,e,hb,hg,hc1,hc2,hc3,ht⟩
 ·omega
 ·injection e with e1 e2 e3
  subst e1;have hB:Blk w g 205 cur.toList:=hg;have hr:Rd w (fun _=>True) (some ⟨g,0,none⟩) (Jf T vs):=Rd.of_blk (r:=cur.toList.drop (T.length*2)) hB (by rw[List.drop_zero,<-ht,lF]) trivial;obtain⟨b,o,hbo,_,hlt,hcell⟩:=hr.at (by rw[Z3e T vs hl];omega);have hv:vs[k]?=some vs[k]:=lB (by omega);have hT:T[k]?=some T[k]:=lB hk;obtain⟨h1,h2⟩:=Z3f T vs hl k _ _ hT hv;exact⟨b,o,vs[k],hbo,hlt,hh k _ _ hT hv,hcell _ _ h1,by have:=hcell _ _ h2;rwa [<- Nat.add_assoc] at this⟩
theorem Zme{w:World}{base:Nat}{u:Value}{ds:Str}(hdl:ds.length=32)(h:Ze w (Jx w base) u [ds]):∃ ib io ic,u=.slice (some ⟨ib,io,none⟩) 1 ic/\1<=ic/\base<=ib/\Xn w ib io ds:=by
 obtain⟨A,c,rfl,hc,hr⟩:=h;have e:Zv [ds]=ds.map B:=by simp[Zv]
 rw[e] at hr;obtain⟨b,o,rfl,⟨h1,cs,hB⟩,_,hcell⟩:=hr.at (by rw[List.length_map];omega);exact⟨b,o,c,rfl,hc,h1,Zmd hB hcell⟩
theorem Zmf(r:Nat)(l:Value)(by_ rb g:Nat)(a n ds:Str)(hdl:ds.length=32)(hn:Z6 n=true)(br:Bool)(d b v:Value)(ok:Nat->Prop)(w:World)(hR:Blk w r 47 (Y1 l by_ rb g a br))(hB:Blk w rb 267 [d,v,b])(h:TabIs w ok v (Xm n ds)) :
  Calls lA 58 #[.pointer (some ⟨r,0,none⟩),.string ⟨n.toArray⟩] w fun e w'=>∃ ib io ic,e=.returned (.slice (some ⟨ib,io,none⟩) 1 ic)/\Xn w' ib io ds/\1<=ic/\w.heap.size<=ib/\Below w.heap.size w w':=by
 have hal:=iD (Z0m r l by_ rb g a br d b v (Xm n ds) ok w hR hB h (Z0n hn hdl));unfold O5 at hal;clear hR hB h;go_enter func58,ntmps58;go_wp2_with fail;refine hal.out.mono ?_;rintro e w1 ⟨v1,rfl,hO,hb1⟩;obtain⟨TA,tc,rfl,_⟩:=hO.tab.form;obtain⟨b1,o1,u,rfl,hlt,hH,c0,c1⟩:=hO.br 0 (by simp[Xm]);simp only[Xm,List.getElem_cons_zero] at c0 c1 hH;have hl1:(Xm n ds).length=1:=rfl;rw[hl1];clear hal;obtain⟨ib,io,ic,rfl,hic,hib,hDg⟩:=Zme hdl hH;simp only[Nat.zero_mul,Nat.add_zero] at c0 c1;have hcc:Hid (∀ j v,[Z1 n,.slice (some ⟨ib,io,none⟩) 1 ic][j]?=some v->w1.cell? ⟨b1,o1+j,none⟩=some v):=iD (fun j v hv=>by
  match j,hv with
  | 0,hv=>simp only[lG,lH] at hv;subst hv;exact c0
  | 1,hv=>simp only[List.getElem?_cons_succ,lG,lH] at hv;subst hv;exact c1)
 clear hO hH c0 c1 hl1;replace hb1:=iD hb1;replace hDg:=iD hDg;unfold Z1 at hcc;go_wp2_with fail;refine wp_loop_rounds 2 ?_;rw[rounds_succ];go_upto_region 4 with (first
  | (refine wpList_load_mid rfl 205 (.tmp 12) rfl b1 o1 rfl [.string ⟨n.toArray⟩,.slice (some ⟨ib,io,none⟩) 1 ic] _ hcc.out underlying205 rfl Q2 ?_;go_frame)
  | (refine Zd rfl 205 (.tmp 6) (.tmp 13) rfl w1.heap.size [.string ⟨n.toArray⟩,.slice (some ⟨ib,io,none⟩) 1 ic] rfl rfl 205 [.string ⟨#[]⟩,.slice none 0 0] (Blk.new_at (cs:=[.string ⟨#[]⟩,.slice none 0 0]) rfl) rfl Q2 (by simp[Value.oneCell']) ?_;go_frame)
  | fail)
 have hX2:Blk ((w1.alloc (.cells #[.string ⟨#[]⟩,.slice none 0 0] 205)).setRow w1.heap.size #[.string ⟨n.toArray⟩,.slice (some ⟨ib,io,none⟩) 1 ic]) w1.heap.size 205 [.string ⟨n.toArray⟩,.slice (some ⟨ib,io,none⟩) 1 ic]:=(Blk.new_at (cs:=[.string ⟨#[]⟩,.slice none 0 0]) rfl).setRow_same [.string ⟨n.toArray⟩,.slice (some ⟨ib,io,none⟩) 1 ic];have hb2:Below w1.heap.size w1 ((w1.alloc (.cells #[.string ⟨#[]⟩,.slice none 0 0] 205)).setRow w1.heap.size #[.string ⟨n.toArray⟩,.slice (some ⟨ib,io,none⟩) 1 ic]):=below_setRow bL (Nat.le_refl _) _;generalize World.setRow _ _ _=w2 at hX2 hb2 ⊢;have x0:w2.cell? ⟨w1.heap.size,0,none⟩=some (.string ⟨n.toArray⟩):=hX2.cell 0;have x1:w2.cell? ⟨w1.heap.size,1,none⟩=some (.slice (some ⟨ib,io,none⟩) 1 ic):=hX2.cell 1;have hb02:=hb1.out.trans (hb2.mono hb1.out.size);have hr2:=hDg.out.below hb2 hDg.out.lt;clear hX2 hb2 hDg hcc hb1;replace hb02:=iD hb02;replace hr2:=iD hr2;go_wp2_with fail;go_returns;exact⟨_,_,_,rfl,hr2.out,hic,hib,hb02.out⟩
end
section
set_option maxRecDepth 100000
set_option maxHeartbeats 8000000
open Go.Lib renaming hid → iD
open Go.Proofs.Tryz
open Go.RowKit
theorem Zmg(s:ByteArray)(x y:Value)(hx:x.oneCell'=true)(hy:y.oneCell'=true)(w:World)(hxf:∃ A n c,x=.slice A n c)(hyf:∃ A n c,y=.slice A n c):(Instr.buildSlice 178 1 #[(0,.agg #[.string s,x,y])]).run lA w=.ok (.slice (some ⟨w.heap.size,0,none⟩) 1 1) (w.alloc (.cells #[.string s,x,y] 177)):=by
 obtain⟨A,n,c,rfl⟩:=hxf;obtain⟨A',n',c',rfl⟩:=hyf;kernel_rfl
theorem Zmh(cb:Nat)(ses:Int)(name say:Str)(kind:Int)(take fresh:Value)(ended:Bool)(e0:Int)(ra a t:Str)(hnl:Z6 name=true)(hn:Z6 (64 :: name)=true)(ha:Z6 a=true)(ht:t.length<=1000)(h0:t ≠ [])(ps:Str)(hps:ps=Xb (Yk (Ym a t))){w0:World}{base:Nat->Prop}{g rb:Nat}{S:DS}{v:Value}{w:World}(h:Ref w0 base rb g v S [] w)(hS:Live S none)(hroom:1000000<=S.room)(r by_:Nat)(hR:Blk w r 47 (Y1 Z0 by_ rb g ra false))(hr:base r)
  (hky:∀ W,Stay base w0 W->Zm W) (hC:Blk w cb 34 (K0 r ses name say kind take fresh ended e0)) (hb hc:Nat) (ri:List Value) (hH:Blk w hb 59 ((idT a t).map B++ri)) (hhc:1<=hc) :
  Calls lA 138 #[.pointer (some ⟨cb,0,none⟩),.string ⟨ps.toArray⟩,.slice (some ⟨hb,0,none⟩) 1 hc] w fun e w'=>e=.returned (.int .i64 0)/\KeepsR w w'/\OneSt w0 base w.heap.size g rb r ra a t (64 :: name) w':=by
 have htr:=iD (Zam name w (by have:=Um hnl;omega));have hst:=iD (fun W (hbl:Below w.heap.size w W)=>Zmc r Z0 by_ rb g ra (64 :: name) false _ _ v _ W (hR.below hbl hR.lt) (h.below hbl).ref (h.below hbl).own.tab);have htk:=iD (fun cb' W (hbl:Below w.heap.size w W) hCh=>Zm8 ra a t (64 :: name) hn ha ht h0 ps hps (h.below hbl) hS hroom r by_ (hR.below hbl hR.lt) hr hky cb' hb hc ri false hCh (hH.below hbl hH.lt) hhc);have c2:w.cell? ⟨cb,2,none⟩=some (.string ⟨name.toArray⟩):=hC.cell 2;clear hR h hH hS hroom hky hps hn ha;go_enter func138,ntmps138;go_wp2_with fail;refine htr.out.mono ?_;rintro e w1 ⟨rfl,hw1⟩;rw[hw1];clear hw1 w1 htr c2;go_upto_region 2 with fail;obtain⟨tn,htn⟩:∃ tn,tn=64 :: name:=⟨_,rfl⟩;rw[<-htn] at hst htk ⊢;replace htn:=iD htn;obtain⟨PS,hPS⟩:∃ PS:World->Prop,∀ y,PS y ↔ Below w.heap.size w y:=⟨_,fun _=>Iff.rfl⟩;have s1:∀ y:Cls PS,y.1.cell? ⟨cb,0,none⟩=some (.pointer (some ⟨r,0,none⟩)):=fun y=>(hC.below ((hPS _).1 y.2) hC.lt).cell 0;have s4:PS w.drew:=(hPS _).2 (lI _ _).drew;haveI : Nonempty (Cls PS):=⟨⟨_,s4⟩⟩;replace hPS:=iD hPS;clear hC;refine Yh (fun w'=>∃ y:Cls PS,w'=y.1) [([0,1,2,3,4,5,6,7,8,9,10,12],11),([13],14)] [] 15 [16] (by kernel_rfl) (by kernel_rfl) (fun _ d _ _ _ h=>by cases d <;> exact h) ⟨⟨_,s4⟩,rfl⟩ ?_;simp only[Y4,Z7,List.map_cons,List.map_nil,Zo,Zn];repeat (first | go_big_quiet_step (fail))
 refine lC ?_;intro K hK;go_simp;have hb1:=(lI w.heap.size w).drew;refine (hst.out _ hb1).mono ?_;rintro e w2 ⟨rfl,hb2'⟩;have hb2:=hb1.trans (hb2'.mono hb1.size);refine hK _ _ ⟨⟨_,(hPS.out _).2 hb2⟩,rfl⟩ ?_;clear hK hb1 hb2' hst;repeat (first | go_big_quiet_step (fail))
 refine lC ?_;intro K hK;refine J0 _ _ rfl _ (Jy 178 (.tmp 26) rfl _ _ rfl (Zmg ⟨tn.toArray⟩ Z0 (.slice (some ⟨hb,0,none⟩) 1 hc) rfl rfl w2 ⟨_,_,_,rfl⟩ ⟨_,_,_,rfl⟩)) ?_;have hCh:Blk (w2.alloc (.cells #[.string ⟨tn.toArray⟩,Z0,.slice (some ⟨hb,0,none⟩) 1 hc] 177)) w2.heap.size 177 [Z1 tn,Z0,.slice (some ⟨hb,0,none⟩) 1 hc]:=Blk.new_at (cs:=[Z1 tn,Z0,.slice (some ⟨hb,0,none⟩) 1 hc]) rfl;have hb3:Below w.heap.size w (w2.alloc (.cells #[.string ⟨tn.toArray⟩,Z0,.slice (some ⟨hb,0,none⟩) 1 hc] 177)):=hb2.alloc hb2.size _;generalize World.alloc w2 _=w3 at hCh hb3 ⊢;refine hK _ _ ⟨⟨_,(hPS.out _).2 hb3⟩,rfl⟩ ?_;clear hK;have ht3:=iD (htk.out w2.heap.size w3 hb3 hCh);clear htk hPS s1 s4 hb2 hCh;replace hb3:=iD hb3;refine lC ?_;go_wp2_with fail;refine ht3.out.mono ?_;rintro e w4 ⟨rfl,hk4,hs4⟩;replace hk4:=iD hk4;replace hs4:=iD hs4;go_wp2_with fail;go_returns;exact⟨rfl,(KeepsR.below hb3.out).trans hk4.out,by rw[<-htn.out];exact hs4.out.lower hb3.out.size⟩
end
section
open Go.RowKit
def Jt(base:Nat->Prop)(n m:Nat)(i:Nat):Prop:=(base i/\i<n) ∨ m<=i
theorem Ref.zone{w0:World}{base:Nat->Prop}{rb g:Nat}{v:Value}{S:DS}{T:Tab}{W W':World}(h:Ref w0 base rb g v S T W)(hb:Below W.heap.size W W'):Ref W' (Jt base W.heap.size W'.heap.size) rb g v S T W':=by
 have h':=h.below hb;obtain⟨L,hD,hL⟩:=h.disk;exact⟨⟨Stay.refl _ _,fun i hi=>.inr hi,L,hD.below hb,fun i hi=>.inl ⟨hL i hi,hD.lt i hi⟩⟩,.inl ⟨h.low,h.ref.lt⟩,h'.ref,h'.own⟩
theorem Ref.apart{w0:World}{base other:Nat->Prop}{rb g:Nat}{v:Value}{S:DS}{W W':World}(h:Ref w0 base rb g v S [] W)(hp:S.pend=[])(hs:Stay other W W')(hn:∀ i,i<W.heap.size->base i->¬ other i)(hk:KeepsR W W') :
  Ref W' (Jt base W.heap.size W'.heap.size) rb g v S [] W':=by
 obtain⟨L,⟨bn,bs,pv,hD,rfl⟩,hL⟩:=h.disk;have key:∀ i,i<W.heap.size->base i->W'.heap[i]?=W.heap[i]?:=fun i hi hb=>hs.block i hi (hn i hi hb);have kl:∀ i ∈ Zf g bn bs pv,W'.heap[i]?=W.heap[i]?:=fun i hi=>key i (hD.lt i hi) (hL i hi);have hD':DiskAt W' g bn bs pv S:=by
  refine⟨(kl g (by simp[Zf])).trans hD.blk,hD.now.block (kl bn (by simp[Zf])),hD.sure.block (kl bs (by simp[Zf])),hD.ne,?_⟩;obtain⟨vs,ho,hop⟩:=hD.row;refine⟨vs,⟨ho.1,?_⟩,?_⟩
  ·rcases ho.2 with h1 | ⟨g',cap,cur,h1,h2,h3,h4⟩
   ·exact .inl h1
   ·exact .inr ⟨g',cap,cur,h1,h2,(kl g' (by rw[h1];simp[Zf,Value.ownBlock])).trans h3,h4⟩
  ·have hl:=hop.1;rw[hp] at hl ⊢;obtain rfl:vs=[]:=List.length_eq_zero_iff.1 hl.symm;exact⟨rfl,fun i o v h _=>by simp at h⟩
 have ho:Zu W' 0 v []:=by
  obtain⟨vs,hl,ho,_⟩:=h.own;refine⟨vs,hl,⟨ho.1,?_⟩,fun k b u e _=>by simp at e⟩;rcases ho.2 with h1 | ⟨g',cap,cur,h1,h2,h3,h4⟩
  ·exact .inl h1
  ·have hB:Blk W g' 205 cur.toList:=h3;exact .inr ⟨g',cap,cur,h1,h2,hk.blk _ _ _ hB (by decide) (by decide) (by decide) (by decide),h4⟩
 exact⟨⟨Stay.refl _ _,fun i hi=>.inr hi,_,⟨bn,bs,pv,hD',rfl⟩,fun i hi=>.inl ⟨hL i hi,hD.lt i hi⟩⟩,.inl ⟨h.low,h.ref.lt⟩,(key rb h.ref.lt h.low).trans h.ref,ho⟩
theorem Z2v{base:Nat->Prop}{w0 w w':World}(hK:Zm w0)(h:Stay base w w')(hz:w0.heap.size<=w.heap.size)(hb:∀ i,base i->w0.heap.size<=i)(hK':Zm w):Zm w':=fun i hi=>by
 have h0:=hK i hi;have hlt:0<w0.heap.size:=by
  apply Classical.byContradiction;intro hn;have : w0.heap[0]?=none:=Array.getElem?_eq_none (by omega);simp[lJ,this] at h0
 have e:=h.block 0 (by omega) (fun hbm=>by have:=hb _ hbm;omega);have h1:=hK' i hi;unfold lJ at h1 ⊢;simp only[e];exact h1
def Vi(n ra a t:Str)(r:Nat)(w:World):Prop:=∃ lb lc rest by' V v g rb br d,Blk w r 47 (Y1 (.slice (some ⟨lb,0,none⟩) 1 lc) by' rb g ra br)/\Blk w lb 154 (Z5 a V++rest)/\Zl w (· < w.heap.size) V (chain t)/\Z8 w by' [(.agg ((idT a t).map B).toArray,.int .i64 0)]/\Blk w rb 267 [d,v,.bool false]/\TabIs w (· < w.heap.size) v (Xm n (idT a t))
theorem Vi.below{n ra a t:Str}{r:Nat}{w w':World}(h:Vi n ra a t r w)(hb:Below w.heap.size w w'):Vi n ra a t r w':=by
 obtain⟨lb,lc,rest,by',V,v,g,rb,br,d,h1,h2,h3,h4,h5,h6⟩:=h;exact⟨lb,lc,rest,by',V,v,g,rb,br,d,h1.below hb h1.lt,h2.below hb h2.lt,h3.stay (fun b _ hlt=>hb.block b hlt) (fun b hlt _=>lK hlt hb.size),h4.below hb h4.lt,h5.below hb h5.lt,h6.stay (fun b hlt _=>hb.block b hlt) (fun b hlt _=>lK hlt hb.size)⟩
theorem OneSt.view{w0:World}{base:Nat->Prop}{ob g rb r:Nat}{ra a t n:Str}{w:World}(h:OneSt w0 base ob g rb r ra a t n w):Vi n ra a t r w:=by
 obtain⟨lb,lc,rest,by',V,v',S',h1,h2,h3,h4,h5,h6,_,_⟩:=h.st;exact⟨lb,lc,rest,by',V,v',g,rb,false,_,h1,h2,h3.stay (fun _ _ _=>rfl) (fun b _ hlt=>hlt),h4,h5.ref,h5.own.tab.ltB⟩
end
end Go.Proofs.YtefjlobdifjogaaGreatDoor
