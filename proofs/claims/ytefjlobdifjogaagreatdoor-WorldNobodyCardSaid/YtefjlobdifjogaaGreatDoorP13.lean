import Derived.Test.YtefjlobdifjogaaGreatDoorP11
import Derived.Test.YtefjlobdifjogaaGreatDoorP12
open Bool renaming or_eq_true → lK
open Go renaming rounds_succ → lA, wp_loop_rounds → lD
open Go.Instr renaming makeMap → lM
open Go.Obj renaming cells → lG
open Go.Proofs.Tryz renaming prog → lB
open Go.RowKit.Below renaming refl → lF
open Go.World renaming alloc → lE, setRow → lJ
open List renaming flatMap_append → lH, length_append → lI, length_nil → lL
open Nat renaming le_refl → lC
namespace Go.Proofs.YtefjlobdifjogaaGreatDoor
section
set_option maxRecDepth 100000
set_option maxHeartbeats 8000000
open Go.Lib renaming hid → iD
open Go.Proofs.Tryz
open Go.RowKit
theorem Zhu(a t:Str)(o:Value)(lb lc ib ic:Nat)(rest ri:List Value)(w:World)(h:Zl w (· < w.heap.size) o (chain t))(ha:Z6 a=true)(ht:t.length<=1000)(hK:Zm w)(hL:Blk w lb 154 (Z5 a o++rest))(hI:Blk w ib 59 ((idT a t).map B++ri)) :
    Calls lB 86 #[.slice (some ⟨lb,0,none⟩) 1 lc,.slice (some ⟨ib,0,none⟩) 1 ic] w fun e w'=>∃ tb nb mb ab es us v ns,e=.returned (.tuple #[.pointer (some ⟨tb,0,none⟩),.int .i64 0])/\TreeAt w' tb nb mb ab t.length es us v/\Vp w' (idT a t) 0 t v ns/\Below w.heap.size w w':=by
  have hcl:(chain t).length=t.length:=Jq t 0;have hrd:=iD (Z4p a t o _ lb lc rest w h ha ht hK hL);obtain⟨OA,oc,rfl,hoc,hor⟩:=h;have hO:Hid (Zl w (· < w.heap.size) (.slice OA (chain t).length oc) (chain t)):=iD ⟨OA,oc,rfl,hoc,hor⟩;rw[hcl] at hO hL;clear hor hoc hK;obtain⟨ds,hds⟩:∃ ds,ds=idT a t:=⟨_,rfl⟩;have hdl:ds.length=32:=by rw[hds];rfl
  rw[<-hds] at hrd hI ⊢;replace hds:=iD hds;replace hL:=iD hL;replace hI:=iD hI;go_enter func86,ntmps86;go_wp2_with fail;refine hrd.out.mono ?_;rintro e w2 ⟨qb,nd,cap,pa,pc,rs,rfl,hM2,hN2,_,_,hb2⟩;have hL2:=iD (hL.out.below hb2 hL.out.lt);have hI2:=iD (hI.out.below hb2 hI.out.lt);replace hM2:=iD hM2;replace hN2:=iD hN2;replace hb2:=iD hb2;clear hL hI hrd;go_wp2_with fail;generalize hW3:lE w2 (lG _ 235)=w3;have hP3:Blk w3 w2.heap.size 235 [.slice (some ⟨nd,0,none⟩) 1 cap,.map (some qb)]:=by rw[<-hW3];exact Blk.new_at (cs:=[.slice (some ⟨nd,0,none⟩) 1 cap,.map (some qb)]) rfl
  have hb3:Below w2.heap.size w2 w3:=by rw[<-hW3];exact bL
  have hL3:=iD (hL2.out.below hb3 hL2.out.lt);have hI3:=iD (hI2.out.below hb3 hI2.out.lt);have hM3:=iD (hM2.out.below hb3 hM2.out.lt);have hN3:=iD (hN2.out.below hb3 hN2.out.lt);have hb3':=iD (hb2.out.trans (hb3.mono hb2.out.size));replace hP3:=iD hP3;clear hW3 hb3 hL2 hI2 hM2 hN2 hb2;refine lD 2 ?_;rw[lA];go_wp2_with (first
    | (refine Xj rfl 59 (.tmp 31) rfl ib 0 rfl 59 (ds.map B++ri) (ds.map B) ri hI3.out (by simp) _ underlying59 rfl (Zg hdl) ?_)
    | (refine Zd rfl 59 (.tmp 10) (.tmp 32) rfl w3.heap.size (ds.map B) rfl rfl 59 Z2 (Blk.new_at rfl) (by simp[hdl,Z2]) (Zg hdl) (Y5 _) ?_
       generalize hw1:lJ _ w3.heap.size (ds.map B).toArray=w4;have hD4:Blk w4 w3.heap.size 59 (ds.map B):=by
         rw[<-hw1];exact (Blk.new_at (w:=w3) (t:=59) (cs:=Z2) rfl).setRow_same (ds.map B)
       have hb4:Below w3.heap.size w3 w4:=by
         rw[<-hw1];exact below_setRow ((lF w3.heap.size w3).alloc (lC _) (.cells Z2.toArray 59)) (lC _) (ds.map B).toArray
       clear hw1;have hP4:=hP3.out.below hb4 hP3.out.lt;have hM4:=hM3.out.below hb4 hM3.out.lt;have hL4:=iD (hL3.out.below hb4 hL3.out.lt);have hI4:=iD (hI3.out.below hb4 hI3.out.lt);have hN4:=iD (hN3.out.below hb4 hN3.out.lt);have hb4':=iD (hb3'.out.trans (hb4.mono hb3'.out.size));have hrun:=iD (hM4.look_some Ja underlying41 (by simpa using Xs ds hdl) (Xs ds hdl) (List.mem_singleton.2 rfl) (by simp) true);have p0:w4.cell? ⟨w2.heap.size,0,none⟩=some (.slice (some ⟨nd,0,none⟩) 1 cap):=hP4.cell 0;have p1:w4.cell? ⟨w2.heap.size,1,none⟩=some (.map (some qb)):=hP4.cell 1;replace hP4:=iD hP4;replace hM4:=iD hM4;replace hD4:=iD hD4;clear hb4;go_frame)
    | (refine Zy rfl 59 (.tmp 10) rfl w3.heap.size rfl 59 (ds.map B) hD4.out _ underlying59 rfl (Zg hdl) ?_)
    | (refine J5 rfl (.tuple #[.int .i64 0,.bool true]) (Kb 41 (.tmp 35) (.tmp 36) true rfl _ _ _ rfl rfl hrun.out) ?_;go_frame)
    | fail)
  rw[lA];go_wp2_with fail;refine (Zht ds hdl nd cap qb ib ic pa pc rs ri _ hN4.out hM4.out hI4.out).mono ?_;rintro e w5 ⟨sb,rfl,hS5,hsb,hb5⟩;have hP5:=iD (hP4.out.below hb5 hP4.out.lt);have hL5:=iD (hL4.out.below hb5 hL4.out.lt);have hN5:=iD (hN4.out.below hb5 hN4.out.lt);have hb5':=iD (hb4'.out.trans (hb5.mono hb4'.out.size));clear hP4 hL4 hN4 hM4 hI4 hD4 hrun p0 p1 hb4' hb5;replace hS5:=iD hS5;go_wp2_with fail;generalize hW6:lE w5 (lG _ 253)=w6;have hV6:Blk w6 w5.heap.size 253 [.slice (some ⟨nd,0,none⟩) 1 cap,.map (some qb),.slice (some ⟨sb,0,none⟩) 1 1]:=by rw[<-hW6];exact Blk.new_at (cs:=[.slice (some ⟨nd,0,none⟩) 1 cap,.map (some qb),.slice (some ⟨sb,0,none⟩) 1 1]) rfl
  have hb6:Below w5.heap.size w5 w6:=by rw[<-hW6];exact bL
  have hP6:=hP5.out.below hb6 hP5.out.lt;have hL6:=hL5.out.below hb6 hL5.out.lt;have hN6:=hN5.out.below hb6 hN5.out.lt;have hS6:=hS5.out.below hb6 hS5.out.lt;have hb6':=hb5'.out.trans (hb6.mono hb5'.out.size);clear hW6 hb6 hP5 hL5 hN5 hS5 hb5';refine (Z3s _).mono ?_;rintro e w7 ⟨tb,nb,mb,ab,rfl,hT7,e1,e2,e3,e4,hb7⟩;have hV7:=hV6.below hb7 hV6.lt;have hP7:=iD (hP6.below hb7 hP6.lt);have hL7:=hL6.below hb7 hL6.lt;have hN7:=iD (hN6.below hb7 hN6.lt);have hS7:=hS6.below hb7 hS6.lt;have hs6:=hb6'.size;have hb7':=iD (hb6'.trans (hb7.mono hs6));clear hV6 hP6 hL6 hN6 hS6 hb7 hb6';have l0:w7.cell? ⟨lb,0,none⟩=some Z0:=hL7.cell 0;have l1:w7.cell? ⟨lb,1,none⟩=some (.string ⟨a.toArray⟩):=hL7.cell 1;have l2:w7.cell? ⟨lb,2,none⟩=some (.string ⟨#[]⟩):=hL7.cell 2;have l3:w7.cell? ⟨lb,3,none⟩=some (.slice OA t.length oc):=hL7.cell 3;have v2:∀ o,(w7.alloc o).cell? ⟨w5.heap.size,2,none⟩=some (.slice (some ⟨sb,0,none⟩) 1 1):=fun o=>(hV7.alloc o).cell 2;have s0:∀ o,(w7.alloc o).cell? ⟨sb,0,none⟩=some (.bool true):=fun o=>(hS7.alloc o).cell 0;replace hT7:=iD hT7;replace hL7:=iD hL7;replace hV7:=iD hV7;replace hS7:=iD hS7;go_wp2_with fail;refine lD 2 ?_;rw[lA];go_wp2_with fail;generalize hW8:lE w7 (lG _ 154)=w8;have hX8:Blk w8 w7.heap.size 154 (Z5 a (.slice OA t.length oc)):=by rw[<-hW8];exact Blk.new_at (cs:=Z5 a (.slice OA t.length oc)) rfl
  have hb8:Below w7.heap.size w7 w8:=by rw[<-hW8];exact bL
  have hP8:=hP7.out.below hb8 hP7.out.lt;have hN8:=hN7.out.below hb8 hN7.out.lt;have hT8:=iD (hT7.out.below hb8);have hb8':=iD (hb7'.out.trans (hb8.mono hb7'.out.size));have p0:w8.cell? ⟨w2.heap.size,0,none⟩=some (.slice (some ⟨nd,0,none⟩) 1 cap):=hP8.cell 0;have x3:w8.cell? ⟨w7.heap.size,3,none⟩=some (.slice OA t.length oc):=hX8.cell 3;have hN9:Hid (∀ w',(∃ n,w'=w8.drewN n)->Blk w' nd 165 (Yd ds (.slice pa 0 pc)++rs)):=iD (by rintro _ ⟨n,rfl⟩;exact hN8.drewN n);clear hW8 hb8 hX8 hN8 hP8 l0 l1 l2 l3 v2 s0 hL7 hV7 hS7 hT7 hP7 hN7 hb7';have i0:(0:Int)<((1:Nat):Int):=by omega
  refine Y7 9 (by kernel_rfl) (by kernel_rfl) ?_;simp only[List.take_succ_cons,List.take_zero,List.drop_succ_cons,List.drop_zero];repeat (first
    | go_big_quiet_step (fail)
    | (refine Yq 59 (.tmp 65) rfl rfl nd 0 rfl 165 (Yd ds (.slice pa 0 pc)++rs) (ds.map B) (.slice pa 0 pc :: rs) hN9.out (by simp[Yd]) _ underlying59 rfl (Zg hdl) ?_;go_frame))
  refine wpQuiet_nil ?_;rintro _ ⟨nq,rfl⟩;have hs8:=hb8'.out.size;have hb9:=iD (hb8'.out.trans ((Touch.drewN (w:=w8) (L:=[]) nq).below hs8 (fun _ hi=>by cases hi)));have hT9:=hT8.out.below ((Touch.drewN (w:=w8) (L:=[]) nq).below (lC _) (fun _ hi=>by cases hi));have hO9:=hO.out.stayB hb9.out;go_wp2_with fail;refine (Zhn t ht tb nb mb ab ds hdl _ (· < w.heap.size) (w8.drewN nq) hT9 (fun b hb hm=>by
    simp at hm;omega) (by omega) hO9).mono ?_
  rintro e w10 ⟨rfl,nf,rf,hst⟩;obtain⟨ns,hns⟩:=Z8z hst rfl t 0 rfl (by simp);have hbf:=hb9.out.trans (hst.touch.below (by simpa using hs8) (fun i hi=>by
    simp at hi;omega))
  have hTf:TreeAt w10 tb nb mb ab t.length _ _ (rf 0):=⟨hst.tree,hst.root,hst.by_,hst.added⟩;replace hst:=iD hst;go_wp2_with fail;rw[lA];go_wp2_with fail;go_returns;exact⟨tb,nb,mb,ab,_,_,rf 0,ns,rfl,hTf,hns,hbf⟩
theorem Zhv(a t:Str)(o:Value)(lb lc ib ic:Nat)(rest ri:List Value)(w:World)(h:Zl w (· < w.heap.size) o (chain t))(ha:Z6 a=true)(ht:t.length<=1000)(hK:Zm w)(hL:Blk w lb 154 (Z5 a o++rest))(hI:Blk w ib 59 ((idT a t).map B++ri)) :
  Calls lB 81 #[.slice (some ⟨lb,0,none⟩) 1 lc,.slice (some ⟨ib,0,none⟩) 1 ic] w fun e w'=>e=.returned (.tuple #[Z1 t,.int .i64 0])/\Below w.heap.size w w':=by
 have hc:=iD (Zhu a t o lb lc ib ic rest ri w h ha ht hK hL hI);clear h hK hL hI;unfold Z1;go_enter func81,ntmps81;go_wp2_with fail;refine hc.out.mono ?_;rintro e w2 ⟨tb,nb,mb,ab,es,us,v,ns,rfl,hT,hns,hb⟩;have htx:=Z7j (idT a t) (Q4 a t) t tb nb mb ab _ es us v ns w2 hT hns (by omega);unfold Z1 at htx;replace htx:=iD htx;replace hb:=iD hb;clear hT hns;go_wp2_with fail;refine htx.out.mono ?_;rintro e w3 ⟨rfl,hb3⟩;have hbf:=hb.out.trans (hb3.mono hb.out.size);go_wp2_with fail;go_returns;exact⟨rfl,hbf⟩
end
section
open Go.RowKit
structure Chain4 (S:DS) (t:Str):Prop where
 e:Vd S (Vx t)=0
 a0:Asked S
 a1:Asked ((Call.write Zi t).turn S)
 a2:Asked (Call.sync.turn ((Call.write Zi t).turn S))
 a3:Asked ((Call.rename Zi Yj).turn (Call.sync.turn ((Call.write Zi t).turn S)))
theorem Zik{S:DS}{n:Nat}(hi:Inv S n)(hn:n+3<4398046511104)(ho:S.off=false)(hf:S.fuse = -1){t:Str}(hx:Zz S.now Zi=false)(hroom:(Yr S.now:Int)+(t.length:Int)<=S.room)(hl:Zq S.now<600):Chain4 S t:=by
 have i1:=hi.turn (Call.write Zi t);have i2:=i1.turn Call.sync;have i3:=i2.turn (Call.rename Zi Yj);have e:(Call.write Zi t).err S=0:=by
  show (if Y3 Zi=true then (if K6 S Zi t=true then (14:Int) else 0) else 11)=0;rw[if_pos (by decide),if_neg];unfold K6;rw[hx,Z1b hx];simp only[lK,decide_eq_true_eq,lL];simp;omega
 have w1:(Call.write Zi t).errno S=0:=(Gh _ ho hf).trans e;have t1:(Call.write Zi t).turn S=S.does (.write Zi t):=by rw[Z0l _ ho hf,e];rfl
 have o1:(S.does (.write Zi t)).off=false:=ho;have f1:(S.does (.write Zi t)).fuse = -1:=hf;have w2:Call.sync.errno (S.does (.write Zi t))=0:=Gh _ o1 f1;have t2:Call.sync.turn (S.does (.write Zi t))={ S with now:=Xy S.now Zi t,sure:=Xy S.now Zi t,pend:=[] }:=by rw[Z0l _ o1 f1];rfl
 obtain⟨S2,hS2⟩:∃ S2:DS,S2={ S with now:=Xy S.now Zi t,sure:=Xy S.now Zi t,pend:=[] }:=⟨_,rfl⟩;have o2:S2.off=false:=by rw[hS2];exact ho
 have f2:S2.fuse = -1:=by rw[hS2];exact hf
 have h2:Zz S2.now Zi=true:=by rw[hS2];exact Zcn hi.now
 have e3:(Call.rename Zi Yj).err S2=0:=by
  show (if (Y3 Zi && Y3 Yj)=true then (if Zz S2.now Zi=true then (0:Int) else 5) else 11)=0;rw[if_pos (by decide),if_pos h2]
 have w3:(Call.rename Zi Yj).errno S2=0:=(Gh _ o2 f2).trans e3;have t3:(Call.rename Zi Yj).turn S2=S2.does (.rename Zi Yj):=by rw[Z0l _ o2 f2,e3];rfl
 have o3:(S2.does (.rename Zi Yj)).off=false:=o2;have f3:(S2.does (.rename Zi Yj)).fuse = -1:=f2;have w4:Call.sync.errno (S2.does (.rename Zi Yj))=0:=Gh _ o3 f3;rw[t1] at i1 i2 i3;rw[t2,<-hS2] at i2 i3;rw[t3] at i3;have hE:Vd S (Vx t)=0:=by
  unfold Vx;rw[Vd,if_pos w1,t1,Vd,if_pos w2,t2,<-hS2,Vd,if_pos w3,t3,Vd,if_pos w4];rfl
 refine⟨hE,hi.asked (by omega),?_,?_,?_⟩
 ·rw[t1];exact i1.asked (by omega)
 ·rw[t1,t2,<-hS2];exact i2.asked (by omega)
 ·rw[t1,t2,<-hS2,t3];exact i3.asked (by omega)
structure First (S:DS) (s t:Str):Prop where
 e:(Call.write s t).errno S=0
 asked:Asked S
 inv:Inv ((Call.write s t).turn S) 1
 off:((Call.write s t).turn S).off=false
 fuse:((Call.write s t).turn S).fuse = -1
 next:Zz ((Call.write s t).turn S).now Zi=false
 sum:Yr ((Call.write s t).turn S).now=t.length
 len:Zq ((Call.write s t).turn S).now=1
 room:((Call.write s t).turn S).room=S.room
theorem Zil{S:DS}(h:Live S none){s t:Str}(hs:Y3 s=true)(hne:s ≠ Zi)(hroom:(t.length:Int)<=S.room):First S s t:=by
 have ho:=h.off;have hf:=h.fuse;have hm:=h.holds.map;have hl:Zq S.now=0:=h.holds.len;have hsum:Yr S.now=0:=h.holds.sum;have hn:Zz S.now s=false:=by
  cases hb:Zz S.now s with
  | false=>rfl
  | true =>
   have:=Z1c (k:=s) (t:=t) hm;have h1:=Z1d (k:=s) hm;rw[hb] at h1;simp at h1;omega
 have e:(Call.write s t).err S=0:=by
  show (if Y3 s=true then (if K6 S s t=true then (14:Int) else 0) else 11)=0;rw[if_pos hs,if_neg];unfold K6;rw[hn,Z1b hn];simp only[lK,decide_eq_true_eq,lL];simp;omega
 have w1:(Call.write s t).errno S=0:=(Gh _ ho hf).trans e;have t1:(Call.write s t).turn S=S.does (.write s t):=by rw[Z0l _ ho hf,e];rfl
 have n1:(S.does (.write s t)).now=Xy S.now s t:=by show Xy S.now s (U5 t 1)=_;rfl
 refine⟨w1,h.inv.asked (by omega),h.inv.turn _,by rw[t1];exact ho,by rw[t1];exact hf,?_,?_,?_,by rw[t1];rfl⟩
 ·rw[t1,n1,Z6j (Ne.symm hne)];exact h.holds.next
 ·rw[t1,n1];have:=Z38 hm s t;rw[Z1b hn] at this;simp at this;omega
 ·rw[t1,n1,Z1c hm,hn];simp[hl]
end
section
set_option maxRecDepth 100000
set_option maxHeartbeats 4000000
open Go.Lib renaming hid → iD
open Go.Proofs.Tryz
open Go.RowKit
abbrev Y1(l:Value)(by_ rb g:Nat)(a:Str)(br:Bool):List Value:=[l,.map (some by_),.pointer (some ⟨rb,0,none⟩),.pointer (some ⟨g,0,none⟩),.string ⟨a.toArray⟩,.bool br]
theorem Gi(r:Nat)(l:Value)(by_ rb g:Nat)(a:Str)(br:Bool)(w:World)(h:Blk w r 47 (Y1 l by_ rb g a br)) :
  Calls lB 98 #[.pointer (some ⟨r,0,none⟩)] w fun e w'=>e=.returned (.bool true)/\w'=w:=by
 have c2:w.cell? ⟨r,2,none⟩=some (.pointer (some ⟨rb,0,none⟩)):=h.cell 2;clear h;go_enter func98,ntmps98;go_wp2;go_ret;exact⟨rfl,rfl⟩
theorem Z9a{T:Tab}{m:Nat}(h:m<T.length):(T.take (m+1)).flatMap (·.heads)=(T.take m).flatMap (·.heads)++T[m].heads:=by
 have e:T.take (m+1)=T.take m++[T[m]]:=by rw[List.take_add_one,List.getElem?_eq_getElem h];rfl
 rw[e,lH];simp
theorem Zim(a b:List Str):Zv (a++b)=Zv a++Zv b:=lH
theorem Z9b(T:Tab)(v:Value)(ok:Nat->Prop)(w:World)(h:TabIs w ok v T)(hf:TFit T)(ht:tOk T)(hl:(T.flatMap (·.heads)).length<=1000) :
  Calls lB 108 #[v] w fun e w'=>∃ V,e=.returned V/\w'.ownsRow w.heap.size 59 32 V (T.flatMap (·.heads)).length (Zv (T.flatMap (·.heads)))/\Below w.heap.size w w':=by
 obtain⟨TA,tc,rfl,_⟩:=h.form;have hTl:=hf.len;obtain⟨ys,hys⟩:∃ ys,ys=T.flatMap (·.heads):=⟨_,rfl⟩;rw[<-hys] at hl ⊢;replace hys:=iD hys;replace h:=iD h;go_enter func108,ntmps108;go_wp2_with fail;go_loopw [3,8] (fun b i wr=>∃ m:Nat,m<=T.length/\i=.int .i64 m/\wr.ownsRow w.heap.size 59 32 b ((T.take m).flatMap (·.heads)).length (Zv ((T.take m).flatMap (·.heads)))/\Below w.heap.size w wr) (fun _ i _=>T.length - (intOf i).toNat)
 case atStart=>exact⟨0,Nat.zero_le _,rfl,⟨rfl,.inl ⟨rfl,rfl⟩⟩,lF _ _⟩
 case round =>
  obtain⟨m,hm,rfl,hrow,hbr⟩:=hrel;by_cases hlt:m<T.length
  ·obtain⟨xs,hxs⟩:∃ xs,xs=(T.take m).flatMap (·.heads):=⟨_,rfl⟩;have hfl:=iD (Z9a hlt);have hxl:xs.length+T[m].heads.length<=1000:=by
    have h1:(T.take (m+1)).flatMap (·.heads)++(T.drop (m+1)).flatMap (·.heads)=T.flatMap (·.heads):=by rw[<-lH,List.take_append_drop]
    have h2:=congrArg List.length h1;rw[lI,Z9a hlt,lI,<-hxs,<-hys.out] at h2;omega
   rw[<-hxs] at hrow hfl;have hr:=h.out.stayB hbr;obtain⟨b,o,u,rfl,_,hbl,hu,c0,c1⟩:=hr.br m hlt;obtain⟨UA,uc,rfl,huc,hur⟩:=hu;have hhd:hOk T[m].heads:=ht _ (List.getElem_mem hlt);have hcl:=Gz hhd;obtain⟨hs,hhs⟩:∃ hs,hs=T[m].heads:=⟨_,rfl⟩;obtain⟨nm,hnm⟩:∃ nm,nm=T[m].name:=⟨_,rfl⟩;rw[<-hhs] at hur c1 hfl hcl hxl;rw[<-hnm] at c0;unfold Z1 at c0;obtain⟨FA,fc,rfl,_,_⟩:=Za hrow;have i1:(0:Int)<=(m:Int):=by omega
   have i2:(m:Int)<(T.length:Int):=by omega
   replace hrow:=iD hrow;replace hbr:=iD hbr;replace hxs:=iD hxs;replace hhs:=iD hhs;replace hnm:=iD hnm;have hur':=iD (hur.stayB ((lF wr.heap.size wr).alloc (lC _) (.cells #[.string ⟨nm.toArray⟩,.slice UA hs.length uc] 205)));have hsz:=hbr.out.size;clear hr hur huc h;go_wp2_with (at_builtin;refine Yt _ rfl (.tmp 12) (.tmp 14) 22 rfl w.heap.size 59 (.agg Z2.toArray) 32 32 underlying22 Uh (.slice FA xs.length fc) xs.length (Zv xs) rfl (hrow.out.alloc _) _ UA hs.length uc (Zv hs) rfl hcl hur'.out (Z3d _) (by unfold maxLen;omega) (by omega) (by simp;omega) ?_;intro v4 W4 hrow4 hg4 hv4;replace hrow4:=iD hrow4;replace hg4:=iD hg4;clear hv4;obtain⟨VA,vc,rfl,_,_⟩:=Za hrow4.out;go_frame);refine⟨⟨m+1,by omega,by go_num,?_,?_⟩,by simp[intOf];omega⟩
   ·rw[hfl.out,Zim,lI];exact hrow4.out
   ·exact (hbr.out.alloc hsz _).trans (Yo (hrow.out.alloc _) hg4.out (by simp;omega))
  ·have hmt:m=T.length:=by omega
   subst hmt;rw[List.take_length,<-hys.out] at hrow;obtain⟨FA,fc,rfl,_,_⟩:=Za hrow;go_wp2_with fail;go_returns;exact⟨_,rfl,hrow,hbr⟩
end
section
set_option maxRecDepth 100000
set_option maxHeartbeats 8000000
open Go.Lib renaming hid → iD
open Go.Proofs.Tryz
open Go.RowKit
theorem Zl8{P:Program}{t k e:TypeId}(ht:P.underlying t=some (.map k e))(n:Int)(w:World):(lM t (some (.int .i64 n))).run P w=.ok (.map (some w.heap.size)) (w.alloc (.map #[] 0)):=by
 simp[lM,run_underlying ht,asInt,asIntOf,Result.andThen]
theorem Z0w{ds:Str}(h:ds.length=32)(v:Value):(Yd ds v).length=33:=by simp[Yd,h]
theorem Og{nc:List Value}(h:nc.length=33):(lB.info? 165).map (·.size)=some nc.length:=by rw[h];kernel_rfl
theorem Zl9(ds:Str)(hdl:ds.length=32)(pa:Option Addr)(pc b:Nat)(w:World)(hM:Z8 w b []) :
  Calls lB 290 #[.agg (Yd ds (.slice pa 0 pc)).toArray,.map (some b)] w fun e w'=>e=.returned (.int .i64 0)/\Below w.heap.size w w':=by
 obtain⟨nc,hnc⟩:∃ nc,nc=Yd ds (.slice pa 0 pc):=⟨_,rfl⟩;have hncl:nc.length=33:=by rw[hnc];exact Z0w hdl _
 have hnd:nc.drop 0=ds.map B++[.slice pa 0 pc]:=by rw[hnc];rfl
 have hn32:nc[32]?=some (.slice pa 0 pc):=by rw[hnc];simp[Yd,hdl]
 rw[<-hnc];generalize hW1:(w.alloc (.cells nc.toArray 165))=w1;have hN1:Blk w1 w.heap.size 165 nc:=by rw[<-hW1];exact Blk.new_at (cs:=nc) rfl
 have hb1:Below w.heap.size w w1:=by rw[<-hW1];exact bL
 have hM1:=hM.below hb1 hM.lt;have c32:w1.cell? ⟨w.heap.size,32,none⟩=some (.slice pa 0 pc):=by have:=hN1.cell 32;rwa [hn32] at this
 have hrun:=hM1.look_none Ja underlying41 (z:=.int .i64 0) (by kernel_rfl) (by simp) (Xs ds hdl) (by simp) true;clear hM;replace hnc:=iD hnc;replace hnd:=iD hnd;replace hn32:=iD hn32;replace hN1:=iD hN1;replace hb1:=iD hb1;replace hM1:=iD hM1;replace hrun:=iD hrun;go_enter func290,ntmps290;go_wp2_with fail;refine lD 1 ?_;rw[lA];go_wp2_with (first
  | (refine Xj rfl 59 (.tmp 42) rfl w.heap.size 0 rfl 165 nc (ds.map B) [.slice pa 0 pc] hN1.out hnd.out _ underlying59 rfl (Zg hdl) ?_;go_frame)
  | (refine Y2 (.lookup 41 (.tmp 41) (.tmp 43) true) rfl rfl (.tuple #[.int .i64 0,.bool false]) (Kb 41 (.tmp 41) (.tmp 43) true rfl _ _ _ rfl rfl hrun.out) ?_;go_frame)
  | fail)
 refine lD 1 ?_;rw[lA];go_wp2_with fail;go_returns;exact⟨rfl,hb1.out⟩
theorem Zla(ds:Str)(hdl:ds.length=32)(nd cap:Nat)(pa:Option Addr)(pc:Nat)(rs:List Value)(w:World)(hN:Blk w nd 165 (Yd ds (.slice pa 0 pc)++rs)) :
  Calls lB 231 #[.slice (some ⟨nd,0,none⟩) 1 cap] w fun e w'=>∃ b,e=.returned (.tuple #[.map (some b),.int .i64 0,.int .i64 0])/\w.heap.size<=b/\Z8 w' b [(.agg (ds.map B).toArray,.int .i64 0)]/\Below w.heap.size w w':=by
 have hwr:=iD (fun b W hM=>Zl9 ds hdl pa pc b W hM);obtain⟨nc,hnc⟩:∃ nc,nc=Yd ds (.slice pa 0 pc):=⟨_,rfl⟩;have hncl:nc.length=33:=by rw[hnc];exact Z0w hdl _
 have hnd:nc.drop 0=ds.map B++[.slice pa 0 pc]:=by rw[hnc];rfl
 have hnco:∀ v ∈ nc,v.oneCell'=true:=by rw[hnc];exact Z2e ds pa pc
 rw[<-hnc] at hN hwr;have hmm:=@Zl8 lB 41 _ _ underlying41;replace hnc:=iD hnc;replace hnd:=iD hnd;replace hnco:=iD hnco;have hz:Qa.length=33:=by decide
 go_enter func231,ntmps231;go_wp2_with fail;generalize hW1:lE w _=w1;have hM1:Z8 w1 w.heap.size []:=by rw[<-hW1];exact Z8.new_at rfl
 have hb1:Below w.heap.size w w1:=by rw[<-hW1];exact bL
 have hN1:=hN.below hb1 hN.lt;clear hW1 hN hmm;replace hM1:=iD hM1;replace hN1:=iD hN1;replace hb1:=iD hb1;refine lD 2 ?_;rw[lA];go_upto_region 7 with (first
  | (refine Xj rfl 165 (.tmp 20) rfl nd 0 rfl 165 (nc++rs) nc rs hN1.out (by simp) _ underlying165 rfl (Og hncl) ?_;go_frame)
  | (refine Zd rfl 165 (.tmp 7) (.tmp 21) rfl w1.heap.size nc rfl rfl 165 Qa (Blk.new_at rfl) (by rw[hz,hncl]) (Og hncl) hnco.out ?_;go_frame)
  | fail)
 generalize hW2:lJ _ w1.heap.size nc.toArray=w2;have hX2:Blk w2 w1.heap.size 165 nc:=by rw[<-hW2];exact (Blk.new_at (cs:=Qa) rfl).setRow_same nc
 have hb12:Below w1.heap.size w1 w2:=by rw[<-hW2];exact below_setRow ((lF _ _).alloc (lC _) (.cells Qa.toArray 165)) (lC _) nc.toArray
 have hM2:=hM1.out.below hb12 hM1.out.lt;have hb2:=hb1.out.trans (hb12.mono hb1.out.size);have hwr2:=hwr.out w.heap.size w2 hM2;clear hW2 hM1 hN1 hb12 hb1 hwr;replace hX2:=iD hX2;replace hM2:=iD hM2;replace hb2:=iD hb2;go_wp2_with (first
  | (refine Zy rfl 165 (.tmp 7) rfl w1.heap.size rfl 165 nc hX2.out _ underlying165 rfl (Og hncl) ?_;go_frame)
  | fail)
 refine hwr2.mono ?_;rintro e w3 ⟨rfl,hb3⟩;have hX3:=hX2.out.below hb3 hX2.out.lt;have hM3:=hM2.out.below hb3 hM2.out.lt;have hb03:=hb2.out.trans (hb3.mono hb2.out.size);obtain⟨w4,hrun,hM4,ht4⟩:=hM3.store Ja underlying41 (by simp) (Xs ds hdl) (by simp) (.int .i64 0);have hb4:Below w.heap.size w w4:=hb03.trans ((Kz ht4).below hb03.size (fun i hi=>by simp at hi;omega));clear hwr2 hX2 hM2 hb2 hb3 ht4 hb03 hM3;replace hX3:=iD hX3;replace hrun:=iD hrun;replace hM4:=iD hM4;replace hb4:=iD hb4;go_wp2_with (first
  | (refine Xj rfl 59 (.tmp 30) rfl w1.heap.size 0 rfl 165 nc (ds.map B) [.slice pa 0 pc] hX3.out hnd.out _ underlying59 rfl (Zg hdl) ?_;go_frame)
  | (refine Ob rfl (Oa 41 (.tmp 29) (.tmp 31) (.tmp 32) rfl _ _ _ rfl rfl rfl hrun.out) ?_;go_frame)
  | fail)
 rw[lA];go_wp2_with fail;go_returns;exact⟨_,rfl,lC _,by simpa using hM4.out,hb4.out⟩
end
end Go.Proofs.YtefjlobdifjogaaGreatDoor
