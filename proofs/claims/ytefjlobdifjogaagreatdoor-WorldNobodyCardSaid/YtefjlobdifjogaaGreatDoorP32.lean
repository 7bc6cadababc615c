import Derived.Test.YtefjlobdifjogaaGreatDoorP31
import Derived.Test.YtefjlobdifjogaaGreatDoorP25
open Go renaming wpQuiet_nil → lD
open Go.Proofs.Tryz renaming prog → lA
open Go.RowKit.Below renaming refl → lG
open Go.Value renaming oneCell' → lE
open Go.World renaming alloc → lF, setRow → lK
open Iff renaming rfl → lH
open List renaming map_cons → lI, map_nil → lJ
open Nat renaming le_trans → lB, le_refl → lC
namespace Go.Proofs.YtefjlobdifjogaaGreatDoor
section
set_option maxRecDepth 100000
set_option maxHeartbeats 8000000
open Go.Lib renaming hid → iD
open Go.Proofs.Tryz
open Go.RowKit
theorem Znw(b g wb ib r0:Nat)(ad:Addr)(d1 r1 fl c:Value)(a0 a1:Str)(n:Int)(s t:Str)(w:World)(hW:Blk w g 73 (wdL (.pointer (some ad)) (.pointer (some ⟨r0,0,none⟩)) a0 d1 r1 a1 fl c n))(hb:b<=g)(ho:w.ownsRow b 133 2 fl 1 [.int .i64 0,.string ⟨s.toArray⟩])(hbw:b<=w.heap.size)
  (hwb:Blk w wb 67 [.pointer (some ⟨g,0,none⟩)]) (hib:Blk w ib 3 [.int .i64 0])
  (hsv:∀ W,Far b w W->Calls lA 16 #[.pointer (some ⟨r0,0,none⟩),.string ⟨s.toArray⟩] W fun e w'=>e=.returned (.tuple #[.string ⟨t.toArray⟩,.bool true])/\Below W.heap.size W w') :
  Calls lA 152 #[.agg #[.int .i64 0,.string ⟨s.toArray⟩],.pointer (some ⟨wb,0,none⟩),.pointer (some ⟨ib,0,none⟩)] w fun e w'=>e=.returned (.int .i64 0)/\∃ fl',Blk w' g 73 (wdL (.pointer (some ad)) (.pointer (some ⟨r0,0,none⟩)) a0 d1 r1 a1 fl' c n)/\w'.ownsRow b 133 2 fl' 1 [.int .i64 1,.string ⟨t.toArray⟩]/\Far b w w':=by
 generalize hW1:w.alloc (.cells #[.int .i64 0,.string ⟨s.toArray⟩] 133)=w1;have hP1:Blk w1 w.heap.size 133 [.int .i64 0,.string ⟨s.toArray⟩]:=by rw[<-hW1];exact Blk.new_at rfl
 have hb1:Below w.heap.size w w1:=by rw[<-hW1];exact bL
 have hW1':=hW.below hb1 hW.lt;have ho1:=Zj (L:=[]) ho (Touch.ofBelow hb1) (by simp);have hlv:=iD (Zbo b g _ _ d1 r1 fl c a0 a1 n _ w1 hW1' hb ho1 (by simp[lE]));have k0:w1.cell? ⟨wb,0,none⟩=some (.pointer (some ⟨g,0,none⟩)):=(hwb.below hb1 hwb.lt).cell 0;have k1:w1.cell? ⟨ib,0,none⟩=some (.int .i64 0):=(hib.below hb1 hib.lt).cell 0;have hgP:g ≠ w.heap.size:=Nat.ne_of_lt hW.lt;have hnP:some w.heap.size ≠ fl.ownBlock:=fun e=>by
  obtain⟨cs,hB⟩:=Z0b ho _ e.symm;exact Nat.lt_irrefl _ hB.lt
 obtain⟨PK,hPK⟩:∃ PK:Array Value,PK=#[.int .i64 0,.string ⟨s.toArray⟩]:=⟨_,rfl⟩;rw[<-hPK] at hW1 ⊢;replace hPK:=iD hPK;replace hP1:=iD hP1;have hwb1:=iD (hwb.below hb1 hwb.lt);replace hb1:=iD hb1;replace hsv:=iD hsv;clear hW hW1' ho ho1 hwb hib;go_enter func152,ntmps152;go_upto_region 1 with fail;clear hW1;go_wp2_with fail;refine hlv.out.mono ?_;rintro e w2 ⟨fl2,rfl,hW2,ho2,hf2,hps⟩;have hP2:=hps _ _ hP1.out hnP;have hwb2:=hf2.blk hwb1.out (by decide) (by decide);obtain⟨FA,fc,rfl,_,_⟩:=Za ho2;have hf02:Far b w w2:=(Far.ofBelow hb1.out).trans hf2;have hsv2:=iD (hsv.out w2.drew (hf02.trans (Far.ofBelow (lG _ _).drew)));have p0:w2.cell? ⟨w.heap.size,0,none⟩=some (.int .i64 0):=hP2.cell 0;clear k0 k1 hlv hP1 hwb1 hb1 hsv hps hf2;replace hf02:=iD hf02;replace hW2:=iD hW2;replace ho2:=iD ho2;replace hP2:=iD hP2;replace hwb2:=iD hwb2;go_upto_region 5 with fail;clear p0;obtain⟨PS,hPS⟩:∃ PS:World->Prop,∀ y,PS y ↔ Blk y g 73 (wdL (.pointer (some ad)) (.pointer (some ⟨r0,0,none⟩)) a0 d1 r1 a1 (.slice FA 0 fc) c n)/\Blk y wb 67 [.pointer (some ⟨g,0,none⟩)]/\Blk y w.heap.size 133 [.int .i64 0,.string ⟨s.toArray⟩]:=⟨_,fun _=>lH⟩;have s1:∀ y:Cls PS,y.1.cell? ⟨g,1,none⟩=some (.pointer (some ⟨r0,0,none⟩)):=fun y=>(Xw ((hPS _).1 y.2).1).2.1;have s2:∀ y:Cls PS,y.1.cell? ⟨wb,0,none⟩=some (.pointer (some ⟨g,0,none⟩)):=fun y=>((hPS _).1 y.2).2.1.cell 0;have s3:∀ y:Cls PS,y.1.cell? ⟨w.heap.size,1,none⟩=some (.string ⟨s.toArray⟩):=fun y=>((hPS _).1 y.2).2.2.cell 1;have s4:PS w2.drew:=(hPS _).2 ⟨hW2.out.drew,hwb2.out.drew,hP2.out.drew⟩;haveI : Nonempty (Cls PS):=⟨⟨_,s4⟩⟩;replace hPS:=iD hPS;refine Yh (fun w'=>∃ y:Cls PS,w'=y.1) [([0,1,2,3,4,5,6,7],8)] [9,10,11,12] 13 [] (by kernel_rfl) (by kernel_rfl) (fun _ d _ _ _ h=>by cases d <;> exact h) ⟨⟨_,s4⟩,rfl⟩ ?_;simp only[Y4,Z7,lI,lJ,Zo,Zn];repeat (first | go_big_quiet_step (fail))
 refine lD ?_;intro K hK;go_simp;refine hsv2.out.mono ?_;rintro e w3 ⟨rfl,hb3⟩;have hd3:Below w2.heap.size w2 w3:=(lG _ _).drew.trans (hb3.mono (lC _));have hW3:=hW2.out.below hd3 hW2.out.lt;have hwb3:=hwb2.out.below hd3 hwb2.out.lt;have hP3:=hP2.out.below hd3 hP2.out.lt;have ho3:=Zj (L:=[]) ho2.out (Touch.ofBelow hd3) (by simp);have hf03:=hf02.out.trans (Far.ofBelow hd3);refine hK _ _ ⟨⟨_,(hPS.out _).2 ⟨hW3,hwb3,hP3⟩⟩,rfl⟩ ?_;clear hK s4 s1 s2 s3 hPS hsv2 hW2 hwb2 hP2 ho2 hf02 hd3 hb3;replace hW3:=iD hW3;replace hwb3:=iD hwb3;replace ho3:=iD ho3;replace hf03:=iD hf03;clear hP3;repeat (first | go_big_quiet_step (fail))
 refine lD ?_
 change wpList _ _ _ _ _ w3
 go_upto_region 7 with fail;obtain⟨PT,hPT⟩:∃ PT:World->Prop,∀ y,PT y ↔ Blk y g 73 (wdL (.pointer (some ad)) (.pointer (some ⟨r0,0,none⟩)) a0 d1 r1 a1 (.slice FA 0 fc) c n)/\Blk y wb 67 [.pointer (some ⟨g,0,none⟩)]:=⟨_,fun _=>lH⟩;have s1:∀ y:Cls PT,y.1.cell? ⟨g,6,none⟩=some (.slice FA 0 fc):=fun y=>(Xw ((hPT _).1 y.2).1).2.2.2.1;have s2:∀ y:Cls PT,y.1.cell? ⟨wb,0,none⟩=some (.pointer (some ⟨g,0,none⟩)):=fun y=>((hPT _).1 y.2).2.cell 0;have s4:PT w3.drew:=(hPT _).2 ⟨hW3.out.drew,hwb3.out.drew⟩;haveI : Nonempty (Cls PT):=⟨⟨_,s4⟩⟩;replace hPT:=iD hPT;refine Yh (fun w'=>∃ y:Cls PT,w'=y.1) [([0,1,2,3,4,5,6],7),([],8)] [9,10] 11 [] (by kernel_rfl) (by kernel_rfl) (fun _ d _ _ _ h=>by cases d <;> exact h) ⟨⟨_,s4⟩,rfl⟩ ?_;simp only[Y4,Z7,lI,lJ,Zo,Zn];repeat (first | go_big_quiet_step (fail))
 refine lD ?_;intro K hK;refine J0 _ _ rfl _ (Jy 71 (.tmp 39) rfl _ _ rfl (Zbl 1 ⟨t.toArray⟩ _)) ?_;have hN4:Blk (w3.drew.alloc (.cells #[.int .i64 1,.string ⟨t.toArray⟩] 133)) w3.heap.size 133 [.int .i64 1,.string ⟨t.toArray⟩]:=Blk.new_at rfl;have hb4:Below w3.heap.size w3 (w3.drew.alloc (.cells #[.int .i64 1,.string ⟨t.toArray⟩] 133)):=by go_grown
 change K _ (lF w3.drew _)
 generalize lF w3.drew _=w4 at hN4 hb4 ⊢;have hW4:=hW3.out.below hb4 hW3.out.lt;have hwb4:=hwb3.out.below hb4 hwb3.out.lt;have ho4:=Zj (L:=[]) ho3.out (Touch.ofBelow hb4) (by simp);have hf04:=hf03.out.trans (Far.ofBelow hb4);refine hK _ _ ⟨⟨_,(hPT.out _).2 ⟨hW4,hwb4⟩⟩,rfl⟩ ?_;clear hK;refine lD ?_;intro K hK;refine Vs _ rfl (.tmp 37) (.tmp 40) 71 rfl b 133 (.agg U2.toArray) 2 24 underlying71 Zbk (.slice FA 0 fc) 0 [] rfl ho4 (fun _=>True) (some ⟨w3.heap.size,0,none⟩) 1 1 [.int .i64 1,.string ⟨t.toArray⟩] rfl rfl (Rd.of_blk (r:=[]) hN4 rfl trivial) (by simp[lE]) (by decide) (by omega) (lB hbw hf04.size) ?_;intro v5 w5 hrow5 hg5 hv5;obtain⟨GA,gc,rfl,_,_⟩:=Za hrow5;have hW5:=hW4.grown hg5 (Ys ho4 hW4 (by decide));have hwb5:=hwb4.grown hg5 (Ys ho4 hwb4 (by decide));have hf05:Far b w w5:=hf04.trans ⟨hg5.os,hg5.tape,hg5.output,hg5.size,fun i hi hn=>hg5.block i hi (fun e=>hn (Zns ho4 e.symm))⟩;refine hK _ _ ⟨⟨_,(hPT.out _).2 ⟨hW5,hwb5⟩⟩,rfl⟩ ?_;clear hK s4;have c6:w5.cell? ⟨g,6,none⟩=some (.slice FA 0 fc):=(Xw hW5).2.2.2.1;have f6:=hW5.frozen 6;have hW6:=iD (hW5.set_ 6 (.slice GA (0+1) gc));have hset:Touch [g] w5 (w5.setCell ⟨g,6,none⟩ (.slice GA (0+1) gc)):=Touch.setCell _ (by simp);have hrow6:=iD (Zj hrow5 hset (fun i hi hm=>by
  obtain rfl:i=g:=by simpa using hm
  exact Ys hrow5 hW5 (by decide) hi.symm))
 have hf06:=iD (hf05.trans (Far.of (b:=b) hset (fun i hi=>by
  obtain rfl:i=g:=by simpa using hi
  exact .inl (Gn hW5 hb))))
 clear hN4 hb4 hW4 hwb4 ho4 hf04 hrow5 hg5 hv5 hW5 hwb5 hf05 hset hPT s1 s2 hW3 hwb3 ho3 hf03;go_frame;repeat (first | go_big_quiet_step (fail))
 refine lD ?_
 change wpList _ _ _ _ _ w5
 go_wp2_with fail;go_returns;exact⟨rfl,_,hW6.out,hrow6.out,hf06.out⟩
end
section
set_option maxRecDepth 100000
set_option maxHeartbeats 8000000
open Go.Lib renaming hid → iD
open Go.Proofs.Tryz
open Go.RowKit
theorem Znx(b g wb ib cb:Nat)(ad:Addr)(r0 d1 r1 fl:Value)(a0 a1:Str)(n:Int)(s:Str){R:World->Prop}(w:World)(hW:Blk w g 73 (wdL (.pointer (some ad)) r0 a0 d1 r1 a1 fl (.pointer (some ⟨cb,0,none⟩)) n))(hb:b<=g)(ho:w.ownsRow b 133 2 fl 1 [.int .i64 1,.string ⟨s.toArray⟩])
  (hwb:Blk w wb 67 [.pointer (some ⟨g,0,none⟩)]) (hib:Blk w ib 3 [.int .i64 0])
  (hhr:∀ W fl',Far b w W->Blk W g 73 (wdL (.pointer (some ad)) r0 a0 d1 r1 a1 fl' (.pointer (some ⟨cb,0,none⟩)) n)->Calls lA 15 #[.pointer (some ⟨cb,0,none⟩),.string ⟨s.toArray⟩] W fun e w'=>e=.returned (.bool true)/\R w') :
  Calls lA 152 #[.agg #[.int .i64 1,.string ⟨s.toArray⟩],.pointer (some ⟨wb,0,none⟩),.pointer (some ⟨ib,0,none⟩)] w fun e w'=>e=.returned (.int .i64 0)/\R w':=by
 generalize hW1:w.alloc (.cells #[.int .i64 1,.string ⟨s.toArray⟩] 133)=w1;have hP1:Blk w1 w.heap.size 133 [.int .i64 1,.string ⟨s.toArray⟩]:=by rw[<-hW1];exact Blk.new_at rfl
 have hb1:Below w.heap.size w w1:=by rw[<-hW1];exact bL
 have hW1':=hW.below hb1 hW.lt;have ho1:=Zj (L:=[]) ho (Touch.ofBelow hb1) (by simp);have hlv:=iD (Zbo b g _ _ d1 r1 fl _ a0 a1 n _ w1 hW1' hb ho1 (by simp[lE]));have k0:w1.cell? ⟨wb,0,none⟩=some (.pointer (some ⟨g,0,none⟩)):=(hwb.below hb1 hwb.lt).cell 0;have k1:w1.cell? ⟨ib,0,none⟩=some (.int .i64 0):=(hib.below hb1 hib.lt).cell 0;have hnP:some w.heap.size ≠ fl.ownBlock:=fun e=>by
  obtain⟨cs,hB⟩:=Z0b ho _ e.symm;exact Nat.lt_irrefl _ hB.lt
 obtain⟨PK,hPK⟩:∃ PK:Array Value,PK=#[.int .i64 1,.string ⟨s.toArray⟩]:=⟨_,rfl⟩;rw[<-hPK] at hW1 ⊢;replace hPK:=iD hPK;replace hP1:=iD hP1;have hwb1:=iD (hwb.below hb1 hwb.lt);replace hb1:=iD hb1;replace hhr:=iD hhr;clear hW hW1' ho ho1 hwb hib;go_enter func152,ntmps152;go_upto_region 1 with fail;clear hW1;go_wp2_with fail;refine hlv.out.mono ?_;rintro e w2 ⟨fl2,rfl,hW2,ho2,hf2,hps⟩;have hP2:=hps _ _ hP1.out hnP;have hwb2:=hf2.blk hwb1.out (by decide) (by decide);have hf02:Far b w w2:=(Far.ofBelow hb1.out).trans hf2;have hhr2:=iD (hhr.out w2.drew fl2 (hf02.trans (Far.ofBelow (lG _ _).drew)) hW2.drew);have p0:w2.cell? ⟨w.heap.size,0,none⟩=some (.int .i64 1):=hP2.cell 0;clear k0 k1 hlv hP1 hwb1 hb1 hhr hps hf2 hf02 ho2;replace hW2:=iD hW2;replace hP2:=iD hP2;replace hwb2:=iD hwb2;go_upto_region 3 with fail;clear p0;obtain⟨PS,hPS⟩:∃ PS:World->Prop,∀ y,PS y ↔ y=w2.drew:=⟨_,fun _=>lH⟩;have s1:∀ y:Cls PS,y.1.cell? ⟨g,7,none⟩=some (.pointer (some ⟨cb,0,none⟩)):=fun y=>by rw[(hPS _).1 y.2];exact (Xw hW2.out.drew).2.2.2.2.1
 have s2:∀ y:Cls PS,y.1.cell? ⟨wb,0,none⟩=some (.pointer (some ⟨g,0,none⟩)):=fun y=>by rw[(hPS _).1 y.2];exact hwb2.out.drew.cell 0
 have s3:∀ y:Cls PS,y.1.cell? ⟨w.heap.size,1,none⟩=some (.string ⟨s.toArray⟩):=fun y=>by rw[(hPS _).1 y.2];exact hP2.out.drew.cell 1
 have s4:PS w2.drew:=(hPS _).2 rfl;haveI : Nonempty (Cls PS):=⟨⟨_,s4⟩⟩;replace hPS:=iD hPS;refine Yh (fun w'=>∃ y:Cls PS,w'=y.1) [] [0,1,2,3,4,5] 6 [] (by kernel_rfl) (by kernel_rfl) (fun _ d _ _ _ h=>by cases d <;> exact h) ⟨⟨_,s4⟩,rfl⟩ ?_;simp only[Y4,Z7,lI,lJ,Zo,Zn];repeat (first | go_big_quiet_step (fail))
 refine lD ?_;clear s1 s2 s3 s4 hW2 hP2 hwb2 hPS;go_wp2_with fail;refine hhr2.out.mono ?_;rintro e w3 ⟨rfl,hR⟩;replace hR:=iD hR;go_wp2_with fail;go_returns;exact⟨rfl,hR.out⟩
theorem Zbp(b g:Nat)(ad:Addr)(r0 d1 r1 fl c:Value)(a0 a1:Str)(n t:Int)(s:Str){R:World->Prop}(w:World)(hW:Blk w g 73 (wdL (.pointer (some ad)) r0 a0 d1 r1 a1 fl c n))(ho:w.ownsRow b 133 2 fl 1 [.int .i64 t,.string ⟨s.toArray⟩])
  (hin:∀ W wb ib,Below w.heap.size w W->Blk W wb 67 [.pointer (some ⟨g,0,none⟩)]->Blk W ib 3 [.int .i64 0]->Calls lA 152 #[.agg #[.int .i64 t,.string ⟨s.toArray⟩],.pointer (some ⟨wb,0,none⟩),.pointer (some ⟨ib,0,none⟩)] W fun e w'=>e=.returned (.int .i64 0)/\R w') :
  Calls lA 74 #[.pointer (some ⟨g,0,none⟩),.int .i64 0] w fun e w'=>e=.returned (.int .i64 0)/\R w':=by
 generalize hW1:(w.alloc (.cells #[.pointer (some ⟨g,0,none⟩)] 67)).alloc (.cells #[.int .i64 0] 3)=w1;have hb1:Below w.heap.size w w1:=by rw[<-hW1];go_grown
 have hwb:Blk w1 w.heap.size 67 [.pointer (some ⟨g,0,none⟩)]:=by rw[<-hW1];exact Blk.alloc (Blk.new_at rfl) _
 have hib:Blk w1 (w.heap.size+1) 3 [.int .i64 0]:=by rw[<-hW1];exact Blk.new_at (by simp)
 have hW1':=hW.below hb1 hW.lt;have ho1:=Zj (L:=[]) ho (Touch.ofBelow hb1) (by simp);have hw:=iD (Znt g ad r0 d1 r1 fl c a0 a1 n b t ⟨s.toArray⟩ (.pointer (some ⟨w.heap.size,0,none⟩)) (.pointer (some ⟨w.heap.size+1,0,none⟩)) w1 hW1' ho1 (hin w1 _ _ hb1 hwb hib));have k0:w1.cell? ⟨w.heap.size,0,none⟩=some (.pointer (some ⟨g,0,none⟩)):=hwb.cell 0;have k1:w1.cell? ⟨w.heap.size+1,0,none⟩=some (.int .i64 0):=hib.cell 0;clear hW hW1' ho ho1 hin hwb hib hb1;go_enter func74,ntmps74;go_upto_region 1 with fail;clear hW1;go_wp2_with fail;refine hw.out.mono ?_;rintro e w3 ⟨rfl,hR⟩;replace hR:=iD hR;go_wp2_with fail;go_returns;exact⟨rfl,hR.out⟩
end
section
open Go.RowKit
section
variable {b:Nat} {w w':World}
theorem Ref.far{w0:World}{base:Nat->Prop}{rb g:Nat}{x:Value}{S:DS}{T:Tab}(h:Ref w0 base rb g x S T w)(hf:Far b w w'):Ref w' (Jt base w.heap.size w'.heap.size) rb g x S T w':=by
 obtain⟨M,ht,hM⟩:=hf.touch;obtain⟨L,hD,hL⟩:=h.disk;have hd:∀ i ∈ L,i ∉ M:=fun i hi hm=>by
  obtain⟨_,ty,cs,hB,e⟩:=hM i hm;exact hD.tag hB (by rcases e with e | e <;> rw[e] <;> decide) (by rcases e with e | e <;> rw[e] <;> decide) hi
 refine⟨⟨Stay.refl _ _,fun i hi=>.inr hi,L,hD.touch ht hd (fun i hi cs hB=>WPk.not hB (by decide) (by decide) (hM i hi)),fun i hi=>.inl ⟨hL i hi,hD.lt i hi⟩⟩,.inl ⟨h.low,h.ref.lt⟩,hf.blk h.ref (by decide) (by decide),h.own.far hf⟩
theorem OneSt.far{w0:World}{base:Nat->Prop}{ob g rb r:Nat}{ra a t n:Str}(h:OneSt w0 base ob g rb r ra a t n w)(hf:Far b w w'):OneSt w' (Jt base w.heap.size w'.heap.size) ob g rb r ra a t n w':=by
 obtain⟨lb,lc,rest,by',V,v',S',h1,h2,h3,h4,h5,h6,h7,h8⟩:=h.st;obtain⟨M,ht,hM⟩:=hf.touch;refine⟨lb,lc,rest,by',V,v',S',hf.blk h1 (by decide) (by decide),hf.blk h2 (by decide) (by decide),h3.touchB ht (fun i hi cs hB=>WPk.not hB (by decide) (by decide) (hM i hi)),h4.touch ht (fun hm=>?_),h5.far hf,h6.far hf,.inl ⟨h7,h2.lt⟩,.inl ⟨h8,h4.lt⟩⟩;obtain⟨_,ty,cs,hB,_⟩:=hM _ hm;exact h4.ne_blk hB rfl
end
end
section
set_option maxRecDepth 100000
set_option maxHeartbeats 16000000
open Go.Lib renaming hid → iD
open Go.Proofs.Tryz
open Go.RowKit
theorem Zbq{p q n m:Nat}(h:q<=n):Jt (Jt (p<=·) q n) n m=Jt (p<=·) q m:=by
 funext i
 apply propext;unfold Jt;constructor
 ·rintro (⟨⟨h1,h2⟩ | h1,h2⟩ | h1)
  ·exact .inl ⟨h1,by omega⟩
  ·omega
  ·exact .inr h1
 ·rintro (⟨h1,h2⟩ | h1)
  ·exact .inl ⟨.inl ⟨h1,h2⟩,by omega⟩
  ·exact .inr h1
def Q6(p q r g:Nat)(a:Str)(w:World):Prop:=∃ by_ rb v,Blk w r 47 (Y1 Z0 by_ rb g a false)/\Ref w (Jt (p<=·) q w.heap.size) rb g v (DS.new 4194304) [] w/\p<=r/\r<q/\q<=w.heap.size
section
variable {p q r g b:Nat} {a:Str} {w w':World}
theorem Q6.far(h:Q6 p q r g a w)(hf:Far b w w'):Q6 p q r g a w':=by
 obtain⟨by_,rb,v,h1,h2,h3,h4,h5⟩:=h;have:=h2.far hf;rw[Zbq h5] at this;exact⟨by_,rb,v,hf.blk h1 (by decide) (by decide),this,h3,h4,lB h5 hf.size⟩
theorem Q6.apart(h:Q6 p q r g a w){other:Nat->Prop}(hs:Stay other w w')(hn:∀ i,i<w.heap.size->Jt (p<=·) q w.heap.size i->¬ other i)(hk:KeepsR w w'):Q6 p q r g a w':=by
 obtain⟨by_,rb,v,h1,h2,h3,h4,h5⟩:=h;have:=h2.apart rfl hs hn hk;rw[Zbq h5] at this;exact⟨by_,rb,v,(hs.block r h1.lt (hn r h1.lt (.inl ⟨h3,h4⟩))).trans h1,this,h3,h4,lB h5 hs.size⟩
end
theorem Zbr:(lA.info? 69).map (·.size)=some 3:=by kernel_rfl
def Z2z(w:World)(a0 a1:Str)(gW gS:Nat)(k:Nat)(wr:World):Prop :=
  Below w.heap.size w wr/\Blk wr gS 9 [Z1 a0,Z1 a1]/\gW<wr.heap.size /\
  ((k=0/\Blk wr gW 73 wdZ) ∨
   (k=1/\∃ p q r g,gW<p/\Q6 p q r g a0 wr/\Blk wr gW 73 (wdL (.pointer (some ⟨g,0,none⟩)) (.pointer (some ⟨r,0,none⟩)) a0 (.pointer none) (.pointer none) [] (.slice none 0 0) (.pointer none) 0)) ∨
   (k=2/\∃ p q r g p' q' r' g',gW<p/\q<=p'/\Q6 p q r g a0 wr/\Q6 p' q' r' g' a1 wr/\Blk wr gW 73 (wdL (.pointer (some ⟨g,0,none⟩)) (.pointer (some ⟨r,0,none⟩)) a0 (.pointer (some ⟨g',0,none⟩)) (.pointer (some ⟨r',0,none⟩)) a1 (.slice none 0 0) (.pointer none) 0)))
theorem Zny(a0 a1:Str)(h0:Z6 a0=true)(h1:Z6 a1=true)(w:World) :
  Calls lA 79 #[.string ⟨a0.toArray⟩,.string ⟨a1.toArray⟩] w fun e w'=>∃ gW p q r g p' q' r' g',e=.returned (.tuple #[.pointer (some ⟨gW,0,none⟩),.int .i64 0])/\w.heap.size<=gW/\gW<p/\q<=p'/\Q6 p q r g a0 w'/\Q6 p' q' r' g' a1 w'/\Below w.heap.size w w' /\
   Blk w' gW 73 (wdL (.pointer (some ⟨g,0,none⟩)) (.pointer (some ⟨r,0,none⟩)) a0 (.pointer (some ⟨g',0,none⟩)) (.pointer (some ⟨r',0,none⟩)) a1 (.slice none 0 0) (.pointer none) 0):=by
 have hd:=iD (fun W=>Z96 4194304 W (by omega) (by omega));obtain⟨gW,hgW⟩:∃ gW,gW=w.heap.size:=⟨_,rfl⟩;replace h0:=iD h0;replace h1:=iD h1;go_enter func79,ntmps79;go_upto_region 3 with fail;generalize hW1:lF (lF w _) _=w1;have hN1:Z2z w a0 a1 w.heap.size (w.heap.size+1) 0 w1:=by
  rw[<-hW1];exact⟨by go_grown,Blk.new_at (by simp),by simp;omega,.inl ⟨rfl,Blk.alloc (Blk.new_at rfl) _⟩⟩
 rw[<-hgW] at hN1 ⊢;clear hW1;replace hgW:=iD hgW;replace hN1:=iD hN1;go_loopw [19] (fun i wr=>∃ k:Nat,k<=2/\i=.int .i64 k/\Z2z w a0 a1 gW (gW+1) k wr) (fun i _=>2 - (intOf i).toNat)
 case atStart=>exact⟨0,by omega,rfl,hN1.out⟩
 case round =>
 obtain⟨k,hk,rfl,hb,hS,hlt,hN⟩:=hrel;clear hN1;rcases hN with ⟨rfl,hN⟩ | ⟨rfl,p,q,r,g,hgp,hA,hN⟩ | ⟨rfl,p,q,r,g,p',q',r',g',h2,h3,h4,h5,h6⟩
 ·skip
  have c_:wr.cell? ⟨gW+1,0,none⟩=some (Z1 a0):=hS.cell 0;unfold Z1 at c_;replace hN:=iD hN;replace hS:=iD hS;replace hb:=iD hb;go_wp2_with fail;refine (hd.out wr).mono ?_;rintro e w2 ⟨g_,L,rfl,hD,hL,hb2⟩;have hSe:Ses wr (wr.heap.size<=·) g_ (DS.new 4194304) w2:=⟨Z2n hb2 (fun i h1 _=>h1),fun i hi=>lB hb2.size hi,L,hD,hL⟩;have ho:=Z50 hSe (Live.new (by omega) (by omega)) a0 h0.out;unfold Z1 at ho;replace ho:=iD ho;clear hD hL hb2 hSe c_;go_wp2_with fail;refine ho.out.mono ?_;rintro e w3 ⟨r_,by_,rb,v,rfl,hR,_,hF,hr,_⟩;have hb3:Below wr.heap.size wr w3:=hF.bel.below (lC _);have hW3:=iD (hN.out.below hb3 hN.out.lt);have hS3:=iD (hS.out.below hb3 hS.out.lt);have hb03:=iD (hb.out.trans (hb3.mono hb.out.size));replace hR:=iD hR;replace hF:=iD hF;replace hb3:=iD hb3;clear ho hN hS hb;go_upto_region 10 with (first
   | (refine Z0z rfl 69 (.tmp 45) (.tmp 42) rfl gW 0 [.pointer (some ⟨g_,0,none⟩),.pointer (some ⟨r_,0,none⟩),.string ⟨a0.toArray⟩] rfl rfl 73 wdZ hW3.out (by simp) Zbr (by simp[lE]) ?_;go_frame)
   | fail)
  generalize hW4:lK w3 _ _=w4;have hBW:Blk w4 gW 73 (wdL (.pointer (some ⟨g_,0,none⟩)) (.pointer (some ⟨r_,0,none⟩)) a0 (.pointer none) (.pointer none) [] (.slice none 0 0) (.pointer none) 0):=by rw[<-hW4];exact hW3.out.setRow_same _
  have ht4:Touch [gW] w3 w4:=by rw[<-hW4];exact Touch.setRow (by simp) _
  have hf4:Far w.heap.size w3 w4:=Far.of ht4 (fun i hi=>by
   obtain rfl:i=gW:=by simpa using hi
   exact .inl (Gn hW3.out (by rw[hgW.out];exact lC _)))
  have hS4:=hS3.out.touch ht4 (by simp);have hb4:=hb03.out.trans (hf4.low hb03.out.size);have hsz:wr.heap.size<=w3.heap.size:=hb3.out.size;have hsz4:=ht4.size;have hFz:=hF.out.far hf4;have hRN:Q6 wr.heap.size w3.heap.size r_ g_ a0 w4:=⟨by_,rb,v,hf4.blk hR.out (by decide) (by decide),hFz,hr,hR.out.lt,hsz4⟩;have hN4:Hid (Z2z w a0 a1 gW (gW+1) 1 w4):=iD ⟨hb4,hS4,by omega,.inr (.inl ⟨rfl,_,_,_,_,hlt,hRN,hBW⟩)⟩;clear hW4 hBW ht4 hf4 hS4 hb4 hFz hRN hW3 hS3 hb03 hR hF hb3;go_wp2_with fail;go_roundw
  case rel=>exact⟨1,by omega,rfl,hN4.out⟩
  case measure=>simp[intOf]
 ·have hqw:q<=wr.heap.size:=by
   obtain⟨_,_,_,_,_,_,_,h⟩:=hA;exact h
  replace hA:=iD hA;have c_:wr.cell? ⟨gW+1,1,none⟩=some (Z1 a1):=hS.cell 1;unfold Z1 at c_;replace hN:=iD hN;replace hS:=iD hS;replace hb:=iD hb;go_wp2_with fail;refine (hd.out wr).mono ?_;rintro e w2 ⟨g_,L,rfl,hD,hL,hb2⟩;have hSe:Ses wr (wr.heap.size<=·) g_ (DS.new 4194304) w2:=⟨Z2n hb2 (fun i h1 _=>h1),fun i hi=>lB hb2.size hi,L,hD,hL⟩;have ho:=Z50 hSe (Live.new (by omega) (by omega)) a1 h1.out;unfold Z1 at ho;replace ho:=iD ho;clear hD hL hb2 hSe c_;go_wp2_with fail;refine ho.out.mono ?_;rintro e w3 ⟨r_,by_,rb,v,rfl,hR,_,hF,hr,_⟩;have hb3:Below wr.heap.size wr w3:=hF.bel.below (lC _);have hW3:=iD (hN.out.below hb3 hN.out.lt);have hS3:=iD (hS.out.below hb3 hS.out.lt);have hb03:=iD (hb.out.trans (hb3.mono hb.out.size));replace hR:=iD hR;replace hF:=iD hF;replace hb3:=iD hb3;clear ho hN hS hb;go_upto_region 10 with (first
   | (refine Z0z rfl 69 (.tmp 45) (.tmp 42) rfl gW 3 [.pointer (some ⟨g_,0,none⟩),.pointer (some ⟨r_,0,none⟩),.string ⟨a1.toArray⟩] rfl rfl 73 (wdL (.pointer (some ⟨g,0,none⟩)) (.pointer (some ⟨r,0,none⟩)) a0 (.pointer none) (.pointer none) [] (.slice none 0 0) (.pointer none) 0) hW3.out (by simp[wdL]) Zbr (by simp[lE]) ?_;go_frame)
   | fail)
  generalize hW4:lK w3 _ _=w4;have hBW:Blk w4 gW 73 (wdL (.pointer (some ⟨g,0,none⟩)) (.pointer (some ⟨r,0,none⟩)) a0 (.pointer (some ⟨g_,0,none⟩)) (.pointer (some ⟨r_,0,none⟩)) a1 (.slice none 0 0) (.pointer none) 0):=by rw[<-hW4];exact hW3.out.setRow_same _
  have ht4:Touch [gW] w3 w4:=by rw[<-hW4];exact Touch.setRow (by simp) _
  have hf4:Far w.heap.size w3 w4:=Far.of ht4 (fun i hi=>by
   obtain rfl:i=gW:=by simpa using hi
   exact .inl (Gn hW3.out (by rw[hgW.out];exact lC _)))
  have hS4:=hS3.out.touch ht4 (by simp);have hb4:=hb03.out.trans (hf4.low hb03.out.size);have hsz:wr.heap.size<=w3.heap.size:=hb3.out.size;have hsz4:=ht4.size;have hFz:=hF.out.far hf4;have hRN:Q6 wr.heap.size w3.heap.size r_ g_ a1 w4:=⟨by_,rb,v,hf4.blk hR.out (by decide) (by decide),hFz,hr,hR.out.lt,hsz4⟩;have hA4:=(hA.out.far (Far.ofBelow (b:=w.heap.size) hb3.out)).far hf4;have hN4:Hid (Z2z w a0 a1 gW (gW+1) 2 w4):=iD ⟨hb4,hS4,by omega,.inr (.inr ⟨rfl,_,_,_,_,_,_,_,_,hgp,hqw,hA4,hRN,hBW⟩)⟩;clear hW4 hBW ht4 hf4 hS4 hb4 hFz hRN hW3 hS3 hb03 hR hF hb3;go_wp2_with fail;go_roundw
  case rel=>exact⟨2,by omega,rfl,hN4.out⟩
  case measure=>simp[intOf]
 ·replace h4:=iD h4;replace h5:=iD h5;replace h6:=iD h6;replace hb:=iD hb;clear hS;go_wp2_with fail;go_returns;exact⟨gW,p,q,r,g,p',q',r',g',rfl,by rw[hgW.out];exact lC _,h2,h3,h4.out,h5.out,hb.out,h6.out⟩
end
section
set_option maxRecDepth 100000
set_option maxHeartbeats 16000000
open Go.Lib renaming hid → iD
open Go.Proofs.Tryz
open Go.RowKit
def Gp(r:Nat)(ra a t n:Str)(w:World):Prop:=∃ w0 base ob g rb,OneSt w0 base ob g rb r ra a t n w
theorem Gp.far{r b:Nat}{ra a t n:Str}{w w':World}(h:Gp r ra a t n w)(hf:Far b w w'):Gp r ra a t n w':=by
 obtain⟨w0,base,ob,g,rb,h⟩:=h;exact⟨_,_,_,_,_,h.far hf⟩
theorem Gp.view{r:Nat}{ra a t n:Str}{w:World}(h:Gp r ra a t n w):Vi n ra a t r w:=by
 obtain⟨w0,base,ob,g,rb,h⟩:=h;exact h.view
theorem Ref.wide{w0:World}{base base':Nat->Prop}{rb g:Nat}{v:Value}{S:DS}{T:Tab}{W:World}(h:Ref w0 base rb g v S T W)(hm:∀ i,base i->base' i):Ref w0 base' rb g v S T W:=by
 obtain⟨L,hD,hL⟩:=h.disk;exact⟨⟨⟨h.bel.os,h.bel.tape,h.bel.output,h.bel.size,fun k hk hn=>h.bel.block k hk (fun hb=>hn (hm k hb))⟩,fun i hi=>hm i (h.size i hi),L,hD,fun i hi=>hm i (hL i hi)⟩,hm _ h.low,h.ref,h.own⟩
theorem Znz{w:World}{b b' n k:Nat}{e:TypeId}{v:Value}{xs:List Value}(h:w.ownsRow b e k v n xs)(hb:b'<=b):w.ownsRow b' e k v n xs:=by
 refine⟨h.1,h.2.imp id ?_⟩;rintro ⟨g,cap,cur,h1,h2,h3⟩;exact⟨g,cap,cur,h1,lB hb h2,h3⟩
abbrev cliF(cb r:Nat)(say:Str)(ended:Bool):List Value:=K0 r 1 Xh say 2 (.func (.func 55) #[.pointer (some ⟨cb,0,none⟩)] #[]) Z0 ended 0
theorem alive17_any(w:World)(hK:Zm w):Calls lA 26 #[] w fun e w'=>e=.returned (.bool true)/\Below w.heap.size w w':=by
 have ha1:Z6 J7=true:=by decide +kernel
 have hb1':Z6 boS=true:=by decide +kernel
 have hm1:Z6 Xh=true:=by decide +kernel
 have hm2:Z6 (64 :: Xh)=true:=by decide +kernel
 have hn:=iD (Zny J7 boS ha1 hb1' w);go_enter func26,ntmps26;go_wp2_with fail;refine hn.out.mono ?_;rintro e w2 ⟨gW,pA,qA,rA,gA,pB,qB,rB,gB,rfl,hgW,hgp,hqp,hA2,hB2,hb02,hW2⟩;have x0:=iD (Zbn 0 gW _ _ w2 (by omega) (Xw hW2).1 (Xw hW2).2.1);obtain⟨byA,rbA,vA,hRA,hFA,hrA1,hrA2,hqA⟩:=hA2;have hz02:=hb02.size;have hAlow:∀ i,Jt (pA<=·) qA w2.heap.size i->w.heap.size<=i:=fun i hi=>by
  rcases hi with h | h
  ·have:=h.1;omega
  ·omega
 have hcm:=Zau J7 hiS Xh hm1 ha1 (by simp) (by simp) hFA (Live.new (by omega) (by omega)) (by simp[DS.new]) rA byA hRA (.inl ⟨hrA1,hrA2⟩) (fun W hs=>Z2v hK hs hz02 hAlow (keys_below hK hb02));unfold Z1 at hcm;replace hcm:=iD hcm;replace hW2:=iD hW2;replace hB2:=iD hB2;replace hb02:=iD hb02;replace hAlow:=iD hAlow;clear hn hRA hFA;go_wp2_with fail;refine x0.out.mono ?_;rintro e wz ⟨rfl,hwz⟩;rw[hwz];clear hwz wz x0;go_wp2_with fail;refine hcm.out.mono ?_;rintro e w3 ⟨rfl,hk3,hO3⟩;have hst3:Stay (Jt (pA<=·) qA w2.heap.size) w2 w3:=by
  obtain⟨lb,lc,rest,by',V,v',S',_,_,_,_,h5,_⟩:=hO3.st;exact h5.bel
 have hB3:=hB2.out.apart hst3 (fun i hi h1 h2=>by
  rcases h1 with h1 | h1 <;> rcases h2 with h2 | h2 <;> omega) hk3
 have hW3:=hk3.blk _ _ _ hW2.out (by decide) (by decide) (by decide) (by decide);have hb03:Below w.heap.size w w3:=hb02.out.trans (Z2w hst3 hAlow.out hb02.out.size);have hA3:Gp rA J7 J7 hiS Xh w3:=⟨_,_,_,_,_,hO3⟩;clear hcm hk3 hO3 hst3 hW2 hB2 hb02 hAlow;obtain⟨dc,hdc⟩:∃ dc,dc=(idT J7 hiS).map B:=⟨_,rfl⟩;have hdcl:dc.length=32:=by rw[hdc,List.length_map];rfl
 have hdz:(lA.info? 59).map (·.size)=some dc.length:=by rw[hdcl];kernel_rfl
 have hdo:∀ v ∈ dc,v.oneCell'=true:=by rw[hdc];exact Y5 _
 rw[<-hdc];replace hdc:=iD hdc;replace hdz:=iD hdz;replace hdo:=iD hdo;replace hW3:=iD hW3;replace hB3:=iD hB3;replace hA3:=iD hA3;replace hb03:=iD hb03;go_upto_region 5 with (first
  | (refine Zd rfl 59 (.tmp 3) (.tmp 27) rfl w3.heap.size dc rfl rfl 59 Z2 (Blk.new_at rfl) (by rw[hdcl];rfl) hdz.out hdo.out ?_;go_frame)
  | fail)
 generalize hW4:lK _ _ _=w4;have hb34:Below w3.heap.size w3 w4:=by rw[<-hW4];exact below_setRow bL (lC _) _
 have hf4:Far w.heap.size w3 w4:=Far.ofBelow hb34;have hW4':=iD (hW3.out.below hb34 hW3.out.lt);have hB4:=hB3.out.far hf4;have hA4:=iD (hA3.out.far hf4);have hb04:=iD (hb03.out.trans (hf4.low hb03.out.size));clear hW4 hb34 hf4 hW3 hB3 hA3 hb03;have hgw4:∀ W,Touch [gW] w4 W->Far w.heap.size w4 W:=fun W ht=>Far.of ht (fun i hi=>by
  obtain rfl:i=gW:=by simpa using hi
  exact .inl (Gn hW4'.out hgW))
 have hft:=Znu gW rB _ _ _ _ _ ⟨Xh.toArray⟩ (fun cb=>cliF cb rB (Zs (Xo 1 Xh)) false) w4 hW4'.out (fun W ht=>by
  obtain⟨by2,rb2,v2,h1,h2,_⟩:=hB4.far (hgw4 W ht);exact Zb0 rB 1 Xh Z0 by2 rb2 gB boS false _ _ v2 _ W h1 h2.ref h2.own.tab (by omega) (by omega) hm1 hm2 (keys_below hK (hb04.out.trans ((hgw4 W ht).low hb04.out.size)))) (Zba _ w4 (Zb9 w4))
 have al_:=Zb7;obtain⟨as_,has_⟩:∃ as_,as_=Zs (Xo 1 Xh):=⟨_,rfl⟩;rw[<-has_] at hft;clear al_;replace hft:=iD hft;replace hgw4:=iD hgw4;replace hB4:=iD hB4;go_wp2_with fail;refine hft.out.mono ?_;rintro e w5 ⟨cb,rfl,hW5,hC5,hcb,ht5⟩;have hlc:w.heap.size<=cb:=lB hb04.out.size hcb;have hf5:=hgw4.out w5 ht5;have hA5:=hA4.out.far hf5;have hB5:=hB4.out.far hf5;have hb05:=hb04.out.trans (hf5.low hb04.out.size);have hz5:=hb05.size;have hsn:=iD (Znv gW cb _ _ _ _ _ _ 1 as_ (cliF cb rB as_ false) w5 hW5 hC5 (fun W hC=>Z5d cb rB 1 Xh as_ 2 _ Z0 false 0 W hC) (fun W hC=>Zal cb rB 1 Xh as_ 2 _ Z0 false 0 W hC));have hgw5:Hid (∀ W,Touch [gW] w5 W->Far w.heap.size w5 W):=iD (fun W ht=>Far.of ht (fun i hi=>by
  obtain rfl:i=gW:=by simpa using hi
  exact .inl (Gn hW5 hgW)))
 replace hA5:=iD hA5;replace hB5:=iD hB5;replace hC5:=iD hC5;replace hb05:=iD hb05;clear hft hf5 hA4 hB4 hb04 hgw4 hW4' hW5 ht5;go_wp2_with fail;refine hsn.out.mono ?_;rintro e w6 ⟨fl,rfl,hW6,ho6,ht6⟩;have hf6:=hgw5.out w6 ht6;have hA6:=hA5.out.far hf6;have hB6:=hB5.out.far hf6;have hC6:=hf6.blk hC5.out (by decide) (by decide);have hb06:=hb05.out.trans (hf6.low hb05.out.size);replace ho6:=Znz ho6 hz5;obtain⟨ts_,hts_⟩:∃ ts_,ts_=Zs (Xg 1 Xh (idT J7 hiS) (Xb (Yk (Ym J7 hiS)))):=⟨_,rfl⟩;have hdl:=iD (Zbp w.heap.size gW _ _ _ _ fl _ _ _ 1 0 as_ (R:=fun w'=>∃ fl',Blk w' gW 73 (wdL (.pointer (some ⟨gA,0,none⟩)) (.pointer (some ⟨rA,0,none⟩)) J7 (.pointer (some ⟨gB,0,none⟩)) (.pointer (some ⟨rB,0,none⟩)) boS fl' (.pointer (some ⟨cb,0,none⟩)) 1)/\w'.ownsRow w.heap.size 133 2 fl' 1 [.int .i64 1,.string ⟨ts_.toArray⟩]/\Far w.heap.size w6 w') w6 hW6 ho6
  (fun W wb ib hbW hwb hib=>(Znw w.heap.size gW wb ib rA _ _ _ fl _ _ _ 1 as_ ts_ W (hW6.below hbW hW6.lt) hgW (Zj (L:=[]) ho6 (Touch.ofBelow hbW) (by simp)) (lB hb06.size hbW.size) hwb hib (fun W' hf=>by
   have h1:=(Far.ofBelow (b:=w.heap.size) hbW).trans hf;have h2:=Zb4 Xh J7 J7 hiS hm1 ha1 (by simp) 1 (by omega) (by omega) rA W' (hA6.far h1).view (keys_below hK (hb06.trans (h1.low hb06.size)));rw[<-has_,<-hts_] at h2;exact h2)).mono (fun e w' h=>by
    obtain⟨he,fl',h1,h2,h3⟩:=h;exact⟨he,fl',h1,h2,(Far.ofBelow hbW).trans h3⟩)))
 replace hB6:=iD hB6;replace hC6:=iD hC6;replace hb06:=iD hb06;replace has_:=iD has_;replace hts_:=iD hts_;clear hsn hf6 hA5 hB5 hC5 hb05 hgw5 hA6 ho6 hW6 ht6;go_wp2_with fail;refine hdl.out.mono ?_;rintro e w7 ⟨rfl,fl7,hW7,ho7,hf7⟩;have hB7:=hB6.out.far hf7;have hC7:=hf7.blk hC6.out (by decide) (by decide);have hb07:=hb06.out.trans (hf7.low hb06.out.size);have hgc:gW ≠ cb:=hW7.ne_ hC7 (by decide);have hdl2:=iD (Zbp w.heap.size gW _ _ _ _ fl7 _ _ _ 1 1 ts_ (R:=fun w'=>∃ fl',Blk w' gW 73 (wdL (.pointer (some ⟨gA,0,none⟩)) (.pointer (some ⟨rA,0,none⟩)) J7 (.pointer (some ⟨gB,0,none⟩)) (.pointer (some ⟨rB,0,none⟩)) boS fl' (.pointer (some ⟨cb,0,none⟩)) 1)/\Vi (64 :: Xh) boS J7 hiS rB w'/\Blk w' cb 34 (cliF cb rB as_ true)/\Below w.heap.size w w') w7 hW7 ho7
  (fun W wb ib hbW hwb hib=>Znx w.heap.size gW wb ib cb _ _ _ _ fl7 _ _ 1 ts_ W (hW7.below hbW hW7.lt) hgW (Zj (L:=[]) ho7 (Touch.ofBelow hbW) (by simp)) hwb hib (fun W' fl' hf hW'=>by
   have h1:=(Far.ofBelow (b:=w.heap.size) hbW).trans hf;have hbW':=hb07.trans (h1.low hb07.size);have hC':=h1.blk hC7 (by decide) (by decide);obtain⟨by2,rb2,v2,k1,k2,k3,k4,k5⟩:=hB7.far h1;have hlow:∀ i,(Jt (pB<=·) qB W'.heap.size i ∨ i=cb)->w.heap.size<=i:=fun i hi=>by
    have:=hbW'.size;have:=hC'.lt;rcases hi with (h | h) | h
    ·have:=h.1;omega
    ·omega
    ·omega
   have hng:¬ (Jt (pB<=·) qB W'.heap.size gW ∨ gW=cb):=fun hi=>by
    have:=hW'.lt;rcases hi with (h | h) | h
    ·have:=h.1;omega
    ·omega
    ·exact hgc h
   have h2:=Zb5 cb 1 (by omega) (by omega) Xh as_ boS J7 hiS hm1 hm2 ha1 (by simp) (by simp) (k2.wide (base':=fun i=>Jt (pB<=·) qB W'.heap.size i ∨ i=cb) (fun i hi=>.inl hi)) (Live.new (by omega) (by omega)) (by simp[DS.new]) rB by2 k1 (.inl (.inl ⟨k3,k4⟩)) (fun X hs=>Z2v hK hs hbW'.size hlow (keys_below hK hbW')) (.inr rfl) hC';rw[<-hts_.out] at h2;refine h2.mono ?_;rintro e w8 ⟨rfl,hO8,hC8⟩;have hst:Stay (fun i=>Jt (pB<=·) qB W'.heap.size i ∨ i=cb) W' w8:=by
    obtain⟨lb,lc,rest,by',V,v',S',_,_,_,_,h5,_⟩:=hO8.st;exact h5.bel
   exact⟨rfl,fl',(hst.block gW hW'.lt hng).trans hW',hO8.view,hC8,hbW'.trans (Z2w hst hlow hbW'.size)⟩)))
 clear hdl hB6 hC6 hb06 hB7 hC7 ho7 hW7 hf7 hb07;go_wp2_with fail;refine hdl2.out.mono ?_;rintro e w8 ⟨rfl,fl8,hW8,hV8,hC8,hb08⟩;have hen:=iD (Znr gW _ _ true 0 w8 (Xw hW8).1 (Xw hW8).2.2.2.2.1 (Z5d cb rB 1 Xh as_ 2 _ Z0 true 0 w8 hC8));replace hW8:=iD hW8;replace hV8:=iD hV8;replace hb08:=iD hb08;clear hdl2 hC8;go_wp2_with fail;refine hen.out.mono ?_;rintro e w9 ⟨rfl,hb89⟩;have hW9:=hW8.out.below hb89 hW8.out.lt;have hV9:=hV8.out.below hb89;have hb09:=hb08.out.trans (hb89.mono hb08.out.size);have hrp:=iD (Zbn 1 gW _ _ w9 (by omega) (Xw hW9).1 (Xw hW9).2.2.1);have htx:=iD (hV9.text hm2 ha1 (by simp) (keys_below hK hb09));replace hb09:=iD hb09;clear hen hW8 hV8 hb08 hW9 hV9 hb89;go_wp2_with fail;refine hrp.out.mono ?_;rintro e wz ⟨rfl,hwz⟩;rw[hwz];clear hwz wz hrp;go_wp2_with fail;refine htx.out.mono ?_;rintro e wx ⟨rfl,hb9x⟩;have hb0x:=iD (hb09.out.trans (hb9x.mono hb09.out.size));clear htx hb9x hb09;go_wp2_with fail;go_returns;exact⟨rfl,hb0x.out⟩
end
end Go.Proofs.YtefjlobdifjogaaGreatDoor
