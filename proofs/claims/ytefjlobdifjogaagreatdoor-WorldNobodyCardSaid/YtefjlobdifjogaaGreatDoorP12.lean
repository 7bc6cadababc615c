import Derived.Shelf.SlIter.Nil
import Derived.Ground.GgzProg
import Derived.Shelf.SlMaps.Clone
import Derived.Ground.SlmcProg
import Derived.Shelf.SlicesE.Clone
import Derived.Ground.SlgnProg
import Derived.Test.YtefjlobdifjogaaGreatDoorP07
open Bool renaming and_eq_true → l3
open Go renaming wpQuiet_nil → lC, bodyPost_ret → lE, results_tmp2 → lH, results_none → lJ, bodyPost_end → lP, wpList_mapUpdate_own → lS
open Go.Ending renaming returned → lW
open Go.Fence renaming wide → lM
open Go.Instr renaming lookup → lU
open Go.IntWalk renaming i64_in → lQ
open Go.Maps renaming size → lL, has → lO, keyOf_str → lY
open Go.Obj renaming map → lR
open Go.Proofs renaming enters_of → lK
open Go.Proofs.Tryz renaming prog → lA
open Go.RowKit.Below renaming refl → lB
open Go.Shelf renaming Ren → lI
open Go.Value renaming ownBlock → lN, func → lT, cells → l1
open List renaming mem_singleton → lG, mem_cons → lV, any_eq_true → lX, mem_append → l2, eq_nil_of_length_eq_zero → l4
open Nat renaming le_trans → lD, le_refl → lF, lt_of_le_of_lt → lZ, lt_of_lt_of_le → l0
section
open Go.Proofs.Tryz
namespace Go.Proofs
open Go.Shelf
def Tryz.cloneM_ren:lI:=⟨fun | 5=>198 | 7=>261 | n=>n,fun | 23=>102 | 25=>9 | 3=>9 | 4=>4 | 20=>20 | n=>n,fun | n=>n⟩
theorem Tryz.cloneM:Go.Proofs.SlLaysW.n5 lA Tryz.cloneM_ren:={
 mixed:=by kernel_rfl
 f5:=⟨Tryz.f198.name,by decide,func198.trans (congrArg some (by kernel_rfl))⟩
 f7:=func261.trans (congrArg some (by kernel_rfl))
 t4:=underlying4
 a4:=isAgg4
 z4:=sizeOf4
 v4:=zeroValue4
 t20:=underlying20
 a20:=isAgg20
 z20:=sizeOf20
 v20:=zeroValue20
 t23:=underlying102
 a23:=isAgg102
 z23:=sizeOf102
 v23:=zeroValue102 }
def Tryz.cloneS_ren:lI:=⟨fun | 41=>215 | n=>n,fun | 22=>103 | 23=>314 | 4=>4 | n=>n,fun | n=>n⟩
theorem Tryz.cloneS:Go.Proofs.SlLaysE0.n41 lA Tryz.cloneS_ren:={
 mixed:=by kernel_rfl
 f41:=⟨Tryz.f215.name,by decide,func215.trans (congrArg some (by kernel_rfl))⟩
 t4:=underlying4
 a4:=isAgg4
 z4:=sizeOf4
 v4:=zeroValue4
 t22:=underlying103
 a22:=isAgg103
 z22:=sizeOf103
 v22:=zeroValue103 }
def Tryz.keys30_ren:lI:=⟨fun | 7=>264 | 10=>314 | n=>n,fun | 23=>102 | 26=>9 | 3=>9 | 28=>377 | 0=>0 | 27=>376 | 33=>39 | 4=>4 | n=>n,fun | n=>n⟩
theorem Tryz.keys30:Go.Proofs.SlLaysZ.n7 lA Tryz.keys30_ren:={
 mixed:=by kernel_rfl
 f7:=⟨Tryz.f264.name,by decide,func264.trans (congrArg some (by kernel_rfl))⟩
 f10:=⟨Tryz.f314.name,by decide,func314.trans (congrArg some (by kernel_rfl))⟩
 t0:=underlying0
 a0:=isAgg0
 z0:=sizeOf0
 v0:=zeroValue0
 t4:=underlying4
 a4:=isAgg4
 z4:=sizeOf4
 v4:=zeroValue4
 t23:=underlying102
 a23:=isAgg102
 z23:=sizeOf102
 v23:=zeroValue102
 t26:=underlying9
 a26:=isAgg9
 z26:=sizeOf9
 v26:=zeroValue9
 t27:=underlying376
 a27:=isAgg376
 z27:=sizeOf376
 v27:=zeroValue376
 t28:=underlying377
 a28:=isAgg377
 z28:=sizeOf377
 v28:=zeroValue377
 t33:=underlying39
 a33:=isAgg39
 z33:=sizeOf39
 v33:=zeroValue39 }
def Tryz.sorted29_ren:lI:=⟨fun | 6=>263 | 8=>312 | 9=>313 | 11=>344 | 13=>225 | 12=>345 | 23=>284 | 24=>285 | 14=>358 | 15=>359 | 16=>360 | 17=>361 | 18=>362 | 19=>363 | 20=>364 | 21=>365 | 22=>366 | 25=>372 | 26=>335 | 27=>336 | 28=>373 | 29=>374 | 30=>375 | 31=>380 | n=>n,fun | 26=>9 | 28=>377 | 24=>169 | 0=>0 | 3=>3 | 37=>226 | 48=>217 | 50=>225 | 4=>4 | 40=>390 | 39=>389 | 45=>251 | 5=>5 | 9=>9 | 51=>440 | 55=>444 | 57=>457 | 58=>458 | 33=>39 | n=>n,fun | n=>n⟩
theorem Tryz.sorted29:Go.Proofs.SlLaysZ.n6 lA Tryz.sorted29_ren:={
 mixed:=by kernel_rfl
 f6:=⟨Tryz.f263.name,by decide,func263.trans (congrArg some (by kernel_rfl))⟩
 f8:=⟨Tryz.f312.name,by decide,func312.trans (congrArg some (by kernel_rfl))⟩
 f11:=⟨Tryz.f344.name,by decide,func344.trans (congrArg some (by kernel_rfl))⟩
 t0:=underlying0
 a0:=isAgg0
 z0:=sizeOf0
 v0:=zeroValue0
 t24:=underlying169
 a24:=isAgg169
 z24:=sizeOf169
 v24:=zeroValue169
 t26:=underlying9
 a26:=isAgg9
 z26:=sizeOf9
 v26:=zeroValue9
 t28:=underlying377
 a28:=isAgg377
 z28:=sizeOf377
 v28:=zeroValue377
 i26:=by kernel_rfl }
def Tryz.sort38_ren:lI:=⟨fun | 6=>313 | 8=>225 | 9=>345 | 19=>284 | 20=>285 | 21=>358 | 22=>359 | 23=>360 | 24=>361 | 25=>362 | 26=>363 | 27=>364 | 28=>365 | 29=>366 | 36=>372 | 31=>335 | 32=>336 | 37=>373 | 38=>374 | 39=>375 | 41=>380 | n=>n,fun | 27=>169 | 29=>9 | 3=>3 | 32=>226 | 26=>169 | 0=>0 | 44=>217 | 46=>225 | 4=>4 | 36=>390 | 35=>389 | 41=>251 | 5=>5 | 9=>9 | 53=>440 | 57=>444 | 63=>457 | 64=>458 | n=>n,fun | n=>n⟩
theorem Tryz.sort38:Go.Proofs.SlLaysM.n6 lA Tryz.sort38_ren:={
 mixed:=by kernel_rfl
 f6:=⟨Tryz.f313.name,by decide,func313.trans (congrArg some (by kernel_rfl))⟩
 f8:=func225.trans (congrArg some (by kernel_rfl))
 f9:=⟨Tryz.f345.name,by decide,func345.trans (congrArg some (by kernel_rfl))⟩
 f19:=func284.trans (congrArg some (by kernel_rfl))
 f20:=func285.trans (congrArg some (by kernel_rfl))
 f21:=⟨Tryz.f358.name,by decide,func358.trans (congrArg some (by kernel_rfl))⟩
 f22:=⟨Tryz.f359.name,by decide,func359.trans (congrArg some (by kernel_rfl))⟩
 f23:=⟨Tryz.f360.name,by decide,func360.trans (congrArg some (by kernel_rfl))⟩
 f24:=⟨Tryz.f361.name,by decide,func361.trans (congrArg some (by kernel_rfl))⟩
 f25:=⟨Tryz.f362.name,by decide,func362.trans (congrArg some (by kernel_rfl))⟩
 f26:=⟨Tryz.f363.name,by decide,func363.trans (congrArg some (by kernel_rfl))⟩
 f27:=⟨Tryz.f364.name,by decide,func364.trans (congrArg some (by kernel_rfl))⟩
 f28:=⟨Tryz.f365.name,by decide,func365.trans (congrArg some (by kernel_rfl))⟩
 f29:=⟨Tryz.f366.name,by decide,func366.trans (congrArg some (by kernel_rfl))⟩
 f31:=func335.trans (congrArg some (by kernel_rfl))
 f32:=func336.trans (congrArg some (by kernel_rfl))
 f36:=⟨Tryz.f372.name,by decide,func372.trans (congrArg some (by kernel_rfl))⟩
 f37:=⟨Tryz.f373.name,by decide,func373.trans (congrArg some (by kernel_rfl))⟩
 f38:=⟨Tryz.f374.name,by decide,func374.trans (congrArg some (by kernel_rfl))⟩
 f39:=⟨Tryz.f375.name,by decide,func375.trans (congrArg some (by kernel_rfl))⟩
 f41:=⟨Tryz.f380.name,by decide,func380.trans (congrArg some (by kernel_rfl))⟩
 t0:=underlying0
 a0:=isAgg0
 z0:=sizeOf0
 v0:=zeroValue0
 t3:=underlying3
 a3:=isAgg3
 z3:=sizeOf3
 v3:=zeroValue3
 t4:=underlying4
 a4:=isAgg4
 z4:=sizeOf4
 v4:=zeroValue4
 t5:=underlying5
 a5:=isAgg5
 z5:=sizeOf5
 v5:=zeroValue5
 t9:=underlying9
 a9:=isAgg9
 z9:=sizeOf9
 v9:=zeroValue9
 t26:=underlying169
 a26:=isAgg169
 z26:=sizeOf169
 v26:=zeroValue169
 t27:=underlying169
 a27:=isAgg169
 z27:=sizeOf169
 v27:=zeroValue169
 t29:=underlying9
 a29:=isAgg9
 z29:=sizeOf9
 v29:=zeroValue9
 t32:=underlying226
 a32:=isAgg226
 z32:=sizeOf226
 v32:=zeroValue226
 t35:=underlying389
 a35:=isAgg389
 z35:=sizeOf389
 v35:=zeroValue389
 t36:=underlying390
 a36:=isAgg390
 z36:=sizeOf390
 v36:=zeroValue390
 t41:=underlying251
 a41:=isAgg251
 z41:=sizeOf251
 v41:=zeroValue251
 t44:=underlying217
 a44:=isAgg217
 z44:=sizeOf217
 v44:=zeroValue217
 t46:=underlying225
 a46:=isAgg225
 z46:=sizeOf225
 v46:=zeroValue225
 t53:=underlying440
 a53:=isAgg440
 z53:=sizeOf440
 v53:=zeroValue440
 t57:=underlying444
 a57:=isAgg444
 z57:=sizeOf444
 v57:=zeroValue444
 t63:=underlying457
 a63:=isAgg457
 z63:=sizeOf457
 v63:=zeroValue457
 t64:=underlying458
 a64:=isAgg458
 z64:=sizeOf458
 v64:=zeroValue458 }
end Go.Proofs
end
section
set_option maxHeartbeats 2000000
set_option maxRecDepth 100000
open Go.Lib renaming hid → iD
open Go.Proofs.Tryz
section
namespace Go.Proofs.YtefjlobdifjogaaGreatDoor
open Go.RowKit Go.Maps Go.Sort Go.Shelf
theorem Z4q(w:World)(b:Nat)(D:DM)(h:Zp w b D) :
  Calls lA 198 #[.map (some b)] w fun e w'=>e=.returned (.map (some w.heap.size))/\Zp w' w.heap.size D/\Below w.heap.size w w':=by
 have hc:=AnyW.maps_Clone_owns Tryz.cloneM 9 (plainElem (H:=Unit) lA 9) b (Zq D) D w h
 change Calls lA 198 _ _ _ at hc
 exact hc.mono fun e w' ⟨h1,h2,_,h4⟩=>⟨h1,h2,h4⟩
theorem Z4r:(lA.info? 314).map (fun i=>(i.zero,i.size,i.bytes))=some (some (.agg #[.nilFunc]),1,8):=by kernel_rfl
end Go.Proofs.YtefjlobdifjogaaGreatDoor
end
section
namespace Go.Proofs.YtefjlobdifjogaaGreatDoor
open Go.RowKit Go.Maps Go.Sort
theorem Z0i(s:List UInt8)(w:World)(hs:s.length<=140737488355328):Calls lA 194 #[Z1 s] w fun e w'=>e=.returned (.bool (Y3 s))/\w=w':=by
 unfold Z1;by_cases h1:1<=s.length
 ·have d1:decide (1<=(s.length:Int))=true:=by simp;omega
  have hn:Y3 s=decide (s.length<=80):=by simp[Y3,h1]
  rw[hn];clear hn;go_enter func194,ntmps194;go_wp2;go_ret;exact⟨by simp;omega,rfl⟩
 ·have hn:Y3 s=false:=by simp[Y3];omega
  rw[hn];clear hn;go_enter func194,ntmps194;go_wp2;go_ret;exact⟨by simp,rfl⟩
theorem Z4s(g bn bs:Nat)(v:Value)(S:DS)(w:World)(h:DiskAt w g bn bs v S):Calls lA 149 #[.pointer (some ⟨g,0,none⟩)] w fun e w'=>e=.returned (.bool true)/\w=w':=by
 have c0:w.cell? ⟨g,0,none⟩=some (.map (some bn)):=by rw[h.blk.cell];rfl
 have hq:=fun w=>Zct (P:=lA) w 102 _ _ (some bn) underlying102;go_enter func149,ntmps149;go_wp2;go_ret;exact⟨rfl,rfl⟩
theorem DiskAt.gne{w:World}{g bn bs:Nat}{v:Value}{S:DS}(h:DiskAt w g bn bs v S):∀ i ∈ bn :: bs :: v.ownBlock.toList,i ≠ g:=by
 intro i hi e;subst e;simp only[lV,Option.mem_toList] at hi;rcases hi with rfl | rfl | e
 ·obtain⟨es,c,he⟩:=h.now.at;have hB:=h.blk;unfold Blk at hB;rw[he] at hB;cases hB
 ·obtain⟨es,c,he⟩:=h.sure.at;have hB:=h.blk;unfold Blk at hB;rw[he] at hB;cases hB
 ·obtain⟨vs,ho,_⟩:=h.row;rcases ho.2 with ⟨rfl,_⟩ | ⟨g',cap,cur,rfl,_,hg,_⟩
  ·cases e
  ·have : g'=i:=by simpa[lN] using e
   subst this;have hB:=h.blk;unfold Blk at hB;rw[hg] at hB
   injection hB with hB
   injection hB with _ ht
   exact absurd ht (by decide)
theorem DiskAt.turn{w w':World}{g bn bs:Nat}{v:Value}{S S':DS}(h:DiskAt w g bn bs v S)(ht:Touch [g] w w')(hB:Blk w' g 105 (Vn bn bs v S'))(e1:S'.now=S.now)(e2:S'.sure=S.sure)(e3:S'.pend=S.pend) :
  DiskAt w' g bn bs v S':=by
 have hg:=h.gne;obtain⟨vs,ho,hop⟩:=h.row;refine⟨hB,?_,?_,h.ne,vs,?_,?_⟩
 ·rw[e1];exact h.now.touch ht (by simpa using hg bn (by simp))
 ·rw[e2];exact h.sure.touch ht (by simpa using hg bs (by simp))
 ·rw[e3];exact Zj ho ht (fun b hb=>by simpa using hg b (by simp[hb]))
 ·rw[e3];exact hop.touch ht (fun i hi cs hc=>by
   have : i=g:=by simpa using hi
   subst this;exact h.blk.ne_ hc (by decide) rfl)
theorem Xt{k:IntKind}{a b:Int}(h:a=b):lW (.int k a)=.returned (.int k b):=by rw[h]
theorem Z90(g bn bs:Nat)(v:Value)(S:DS)(w:World)(h:DiskAt w g bn bs v S):Calls lA 193 #[.pointer (some ⟨g,0,none⟩),.bool false] w fun e w'=>e=.returned (.int .i64 S.powR)/\w=w':=by
 have c5:w.cell? ⟨g,5,none⟩=some (.bool S.off):=by rw[h.blk.cell];rfl
 have hm:=iD (Z4s g bn bs v S w h);clear h;cases ho:S.off with
 | true =>
  have hp:Hid (S.powR=15):=iD (by simp[DS.powR,ho]);rw[ho] at c5;clear ho;go_enter func193,ntmps193;go_wp2_with fail;refine hm.out.mono ?_;rintro e w' ⟨rfl,rfl⟩;go_wp2;go_ret;exact⟨Xt hp.out.symm,rfl⟩
 | false =>
  have hp:Hid (S.powR=0):=iD (by simp[DS.powR,ho]);rw[ho] at c5;clear ho;go_enter func193,ntmps193;go_wp2_with fail;refine hm.out.mono ?_;rintro e w' ⟨rfl,rfl⟩;go_wp2;go_ret;exact⟨Xt hp.out.symm,rfl⟩
theorem Z2f(g bn bs:Nat)(v:Value)(S:DS)(w:World)(h:DiskAt w g bn bs v S)(f0:-1<=S.fuse)(f1:S.fuse<=1000000):Calls lA 193 #[.pointer (some ⟨g,0,none⟩),.bool true] w fun e w' =>
  e=.returned (.int .i64 S.powE)/\DiskAt w' g bn bs v S.tick/\Touch [g] w w'/\w'.heap.size=w.heap.size:=by
 have c4:w.cell? ⟨g,4,none⟩=some (.int .i64 S.fuse):=by rw[h.blk.cell];rfl
 have c5:w.cell? ⟨g,5,none⟩=some (.bool S.off):=by rw[h.blk.cell];rfl
 have z4:=h.blk.frozen 4;have z5:=h.blk.frozen 5;have hm:=iD (Z4s g bn bs v S w h);replace h:=iD h;cases ho:S.off with
 | true =>
  have ht:Hid (S.tick=S):=iD (by simp[DS.tick,ho]);have hp:Hid (S.powE=15):=iD (by simp[DS.powE,ht.out,ho]);rw[ho] at c5;clear ho;go_enter func193,ntmps193;go_wp2_with fail;refine hm.out.mono ?_;rintro e w' ⟨rfl,rfl⟩;go_wp2;go_ret;exact⟨Xt hp.out.symm,by rw[ht.out];exact h.out,Touch.refl _ _,rfl⟩
 | false =>
  have ht:Hid (S.tick={ S with off:=decide (S.fuse=0),fuse:=max (S.fuse - 1) (-1) }):=iD (by simp[DS.tick,ho]);rw[ho] at c5;clear ho;obtain⟨f,hf⟩:∃ f,f=S.fuse:=⟨_,rfl⟩;rw[<-hf] at f0 f1 c4 ht;replace hf:=iD hf;by_cases hz:f=0
  ·have hp:Hid (S.powE=15):=iD (by simp[DS.powE,ht.out,hz]);subst hz;go_enter func193,ntmps193;go_wp2_with fail;refine hm.out.mono ?_;rintro e w' ⟨rfl,rfl⟩;go_wp2;go_ret;refine⟨Xt hp.out.symm,?_,(Touch.setCell _ (by simp)).trans (Touch.setCell _ (by simp)) (fun i hi=>.inl hi),by simp⟩;rw[ht.out];exact h.out.turn ((Touch.setCell _ (by simp)).trans (Touch.setCell _ (by simp)) (fun i hi=>.inl hi)) ((h.out.blk.set_ 5 _).set_ 4 _) rfl rfl rfl
  ·have hB:(f == 0)=false:=by simp[hz]
   have hp:Hid (S.powE=0):=iD (by simp[DS.powE,ht.out,hz]);replace hz:=iD hz;have hD:=h;clear h;go_enter func193,ntmps193;go_wp2_with fail;refine hm.out.mono ?_;rintro e w' ⟨rfl,rfl⟩;go_wp2;all_goals
    go_ret;refine⟨Xt hp.out.symm,?_,(Touch.setCell _ (by simp)).trans (Touch.setCell _ (by simp)) (fun i hi=>.inl hi),by simp⟩;rw[ht.out,decide_eq_false hz.out];first
     | (rw[show max (f - 1) (-1)=f - 1 by omega];exact hD.out.turn ((Touch.setCell _ (by simp)).trans (Touch.setCell _ (by simp)) (fun i hi=>.inl hi)) ((hD.out.blk.set_ 5 _).set_ 4 _) rfl rfl rfl)
     | (rw[show max (f - 1) (-1) = -1 by omega];exact hD.out.turn ((Touch.setCell _ (by simp)).trans (Touch.setCell _ (by simp)) (fun i hi=>.inl hi)) ((hD.out.blk.set_ 5 _).set_ 4 _) rfl rfl rfl)
     | exact hD.out.turn ((Touch.setCell _ (by simp)).trans (Touch.setCell _ (by simp)) (fun i hi=>.inl hi)) ((hD.out.blk.set_ 5 _).set_ 4 _) rfl rfl rfl
def Qm(D:DM)(left:Lit->Bool):Nat:=(((fEs D).filter fun p=>left p.1).map Vk).sum
theorem Z91(D:DM)(left:Lit->Bool):Qm D left<=Yr D:=by
 unfold Qm Yr;induction fEs D with
 | nil=>simp
 | cons p r ih =>
  rw[List.filter_cons];split <;> simp <;> omega
theorem Zhw{D:DM}(h:Yu D):Qm D (lO D)=Yr D:=by
 obtain⟨es,rfl,hp,hs⟩:=h;unfold Qm Yr;rw[List.filter_eq_self.2];intro p hm;show lO (.map es) p.1=true;rw[has_eq,lX];obtain⟨k,v,rfl⟩:=hs p hm;exact⟨_,hm,by simp[Lit.sameKey]⟩
theorem Zhx{D:DM}{left:Lit->Bool}(h:∀ k,left k=false):Qm D left=0:=by
 unfold Qm;rw[List.filter_eq_nil_iff.2 (by simp[h])];rfl
theorem Zhy{D:DM}(h:Yu D){left:Lit->Bool}{k t:List UInt8}(hl:left (.string k)=true)(hat:∀ zd,D.atKey (.string k) zd=Jl t) :
  Qm D left=t.length+Qm D (fun z=>left z && !z.sameKey (.string k)):=by
 have hh:=has_true_of_atKey hat;obtain⟨es,rfl,hp,hs⟩:=h;have hhit:Q1 es (.string k)=Jl t:=by
  have h1:=hat (Jl []);have h2:=Z37 es k;unfold fS at h2;rw[h1] at h2;unfold Q1 at h2 ⊢;rw[has_eq,lX] at hh;obtain⟨p,hm,hsk⟩:=hh;cases hf:es.find? (fun p=>p.1.sameKey (.string k)) with
  | none=>exact absurd hsk (by simpa using List.find?_eq_none.1 hf p hm)
  | some q =>
   rw[hf] at h2;obtain⟨k',v,rfl⟩:=hs q (List.mem_of_find?_eq_some hf);simp only[Uz,Jl] at h2 ⊢;rw[h2]
 unfold Qm;show ((es.filter fun p=>left p.1).map Vk).sum=_+((es.filter fun p=>left p.1 && !p.1.sameKey (.string k)).map Vk).sum;have h3:(es.filter fun p=>left p.1 && !p.1.sameKey (.string k))=((es.filter fun p=>left p.1).filter fun p=>!p.1.sameKey (.string k)):=by
  rw[List.filter_filter]
  congr 1
  funext p
  exact Bool.and_comm _ _
 rw[h3,<-Z19 (.string k) (es.filter fun p=>left p.1) (hp.filter _)];have h4:Q1 (es.filter fun p=>left p.1) (.string k)=Q1 es (.string k):=by
  unfold Q1;rw[find_filter_keep (fun p hp'=>by rw[WideAt.sameKey_eq hp'];exact hl)]
 rw[h4,hhit];simp only[Uz,Jl];exact Nat.add_comm _ _
def Zhz(w:World)(b:Nat)(D:DM)(n:Nat)(w':World):Prop:=∃ left cnt,w'.ranges lA 9 (plainElem (H:=Unit) lA 9) b w.heap.size (Zq D) D left cnt/\n+Qm D left=Yr D/\Below w.heap.size w w'
theorem Zi0(w:World)(b:Nat)(D:DM)(h:Zp w b D)(hs:Yr D<=1099511627776):Calls lA 195 #[.map (some b)] w fun e w'=>e=.returned (.int .i64 (Yr D))/\Below w.heap.size w w':=by
 have hstr:=iD h.str;have hlt:=h.lt;replace h:=iD h;go_enter func195,ntmps195;go_wp2_with (refine wpList_range_own _ rfl (.tmp 6) 102 rfl 9 9 Qs underlying102 (plainElem (H:=Unit) lA 9) b (Zq D) D rfl h.out ?_;intro w1 hrg hg1 hz1;go_frame);replace hrg:=iD hrg;replace hg1:=iD hg1;replace hz1:=iD hz1;go_loopw [3,5] (fun n _ wr=>∃ k:Nat,n=.int .i64 k/\Zhz w b D k wr) (fun _ _ wr=>wr.rangeLeft b w.heap.size)
 case atStart=>exact⟨0,rfl,_,_,hrg.out,by rw[Zhw hstr.out];simp,(lB _ _).grown hg1.out (lF _) (by simp)⟩
 case round =>
  obtain⟨k,rfl,left,cnt,hr,hk,hb⟩:=hrel;have hle:=Z91 D left;have hkb:(k:Int)<=1099511627776:=by omega
  replace hr:=iD hr;replace hk:=iD hk;replace hb:=iD hb;clear hle;go_wp2_with (first
   | (refine wpList_next_ranges _ rfl (.tmp 7) rfl 9 Qs (plainElem (H:=Unit) lA 9) encStr Z1 (fun key kl hk=>by obtain⟨x,hx,_⟩:=lY underlying9 hk;exact⟨x,hx⟩) (fun v y hv=>by obtain⟨c,rfl,_⟩:=Gx hv;exact⟨c,rfl⟩) b w.heap.size (Zq D) D left cnt rfl hr.out ?_ ?_))
  ·intro hc0 hl0;have hk':=hk.out;rw[Zhx hl0] at hk';clear hl0 hc0;have hK:Hid (k=Yr D):=iD (by omega);clear hk';go_wp2;go_ret;exact⟨Xt (by rw[hK.out]),hb.out⟩
  ·intro x c kl yd yp w2 cnt2 hkey hlk hv hat hrg2 hlt2 hg2 hs2 hen;obtain⟨x',ex,rfl,_⟩:=lY underlying9 hkey;obtain rfl:x=x':=encStr_inj ex;obtain⟨t,et,ez,ht⟩:=Gx hv;obtain rfl:c=t:=encStr_inj et;obtain⟨rfl,rfl⟩:yd=Jl c/\yp=[]:=by simpa using ez
   have hst:=Zhy hstr.out hlk hat;have hle2:=Z91 D (fun z=>left z && !z.sameKey (.string x));have hk':=hk.out;have hkc:(k:Int)+(c.length:Int)<=1099511627776:=by omega
   have hfin:Hid ((k+c.length)+Qm D (fun z=>left z && !z.sameKey (.string x))=Yr D):=iD (by omega);have hmeas:Hid (w2.rangeLeft b w.heap.size<wr.rangeLeft b w.heap.size):=iD (by rw[hrg2.left_eq,hr.out.left_eq];exact hlt2);have hbel:Hid (Below w.heap.size w w2):=iD (hb.out.grown hg2 hb.out.size (fun j hj=>by cases hj;exact lF _));replace hrg2:=iD hrg2;clear hst hle2 hk' ex et ez ht hat hlk hkey hlt2 hv hs2 hg2;unfold encStr Z1 at hen;unfold encStr Z1;go_wp2;go_roundw
   case rel=>exact⟨k+c.length,by go_num,_,_,hrg2.out,hfin.out,hbel.out⟩
   case measure=>exact hmeas.out
theorem Qb{s:List UInt8}(h:s.length<=80):s.length<=maxLen:=by unfold maxLen;omega
theorem Zi1{s:List UInt8}(h:s.length<=16777216):s.length<=maxLen:=by unfold maxLen;omega
theorem Zi2(w:World)(b a:Nat)(D:DM)(s:List UInt8)(k:Int)(h:Zp w b D)(ha:Blk w a 9 [Z1 s])(hs:s.length<=80) :
  Calls lA 205 #[.map (some b),.int .i64 k,.pointer (some ⟨a,0,none⟩)] w fun e w'=>e=.returned (.tuple #[])/\Zp w' b ((DOp.remove s).act k D)/\Touch [b] w w':=by
 have c0:w.cell? ⟨a,0,none⟩=some (Z1 s):=by rw[ha.cell];rfl
 clear ha;replace h:=iD h;go_enter func205,ntmps205;go_wp2_with (at_delete;refine wpList_delete_own _ rfl (.tmp 5) (.tmp 6) 102 9 rfl 9 Qs underlying102 (plainElem (H:=Unit) lA 9) b (Zq D) D rfl h.out (Z1 s) (.string s) rfl (O0 s (Qb hs)) ?_;intro w1 ho hm);exact lP (v:=.tuple #[]) (lJ (by rfl) _ _ _) rfl ⟨rfl,Zp.of ho,Touch.grown hm.grown (by simp)⟩
theorem Zi3(w:World)(b a a':Nat)(D:DM)(s t:List UInt8)(k:Int)(h:Zp w b D)(hl:Zq D<8796093022208)(ha:Blk w a 9 [Z1 s])(ha':Blk w a' 9 [Z1 t])(hs:s.length<=80)(ht:t.length<=80) :
  Calls lA 199 #[.map (some b),.int .i64 k,.pointer (some ⟨a,0,none⟩),.pointer (some ⟨a',0,none⟩)] w fun e w'=>e=.returned (.tuple #[])/\Zp w' b ((DOp.rename s t).act k D)/\Touch [b] w w':=by
 have c0:w.cell? ⟨a,0,none⟩=some (Z1 s):=by rw[ha.cell];rfl
 have c1:w.cell? ⟨a',0,none⟩=some (Z1 t):=by rw[ha'.cell];rfl
 have hlook:=h.look (Qb hs);cases hh:Zz D s with
 | false =>
  have hact:Hid ((DOp.rename s t).act k D=D):=iD (by simp[DOp.act,hh]);rw[hh] at hlook;clear hh ha ha';replace h:=iD h;go_enter func199,ntmps199;go_wp2;refine lP (v:=.tuple #[]) (lJ (by rfl) _ _ _) rfl ⟨rfl,?_,Touch.refl _ _⟩;rw[hact.out];exact h.out
 | true =>
  have hact:Hid ((DOp.rename s t).act k D=Xy (K4 D s) t (fS D s)):=iD (by simp[DOp.act,hh]);have hle:=Z6k (k:=s) h.str;have htx:=h.text_le (Qb hs);have hb1:a ≠ b:=fun e=>by
   obtain⟨es,c,he⟩:=h.at;subst e;unfold Blk at ha;rw[he] at ha;cases ha
  have hb2:a' ≠ b:=fun e=>by
   obtain⟨es,c,he⟩:=h.at;subst e;unfold Blk at ha';rw[he] at ha';cases ha'
  rw[hh] at hlook;replace h:=iD h;replace hle:=iD hle;replace ha:=iD ha;replace ha':=iD ha';replace hlook:=iD hlook;obtain⟨x,hx⟩:∃ x,x=fS D s:=⟨_,rfl⟩;rw[<-hx] at hact hlook htx;clear hh hx;replace htx:=iD htx;have hlook':=hlook.out;replace hb1:=iD hb1;replace hb2:=iD hb2;replace hl:=iD hl;go_enter func199,ntmps199;go_wp2_with (first
   | (at_delete;refine wpList_delete_own _ rfl (.tmp 15) (.tmp 16) 102 9 rfl 9 Qs underlying102 (plainElem (H:=Unit) lA 9) b (Zq D) D rfl h.out (Z1 s) (.string s) rfl (O0 s (Qb hs)) ?_;intro w1 ho hm;have c2:w1.cell? ⟨a',0,none⟩=some (Z1 t):=(by rw[(ha'.out.grown hm.grown (by simpa using hb2.out)).cell];rfl);replace ho:=iD (Zp.of ho);replace hm:=iD hm)
   | (at_mapUpdate;refine lS _ rfl (.tmp 17) (.tmp 18) (.tmp 19) 102 rfl 9 9 Qs underlying102 (plainElem (H:=Unit) lA 9) b (Zq (K4 D s)) (K4 D s) rfl ho.out (lZ hle.out (l0 hl.out (by unfold maxLen;omega))) (Z1 t) (Z1 x) (.string t) rfl rfl (O0 t (Qb ht)) (Jl x) [] (Gw x htx.out) ?_;intro w2 ho2 hm2;replace ho2:=iD (Zp.of ho2);replace hm2:=iD hm2))
  refine lP (v:=.tuple #[]) (lJ (by rfl) _ _ _) rfl ⟨rfl,?_,(Touch.grown (L:=[b]) hm.out.grown (by simp)).trans (Touch.grown (L:=[b]) hm2.out (by simp)) (fun i hi=>.inl hi)⟩;rw[hact.out];exact ho2.out
theorem Zi4(t:List UInt8)(j:Nat):(⟨t.toArray⟩:ByteArray).extract 0 j=⟨(t.take j).toArray⟩:=by
 apply ByteArray.ext;simp
theorem Zi5(k:Int)(n:Nat)(h1:1<k):∃ j:Nat,Int.tmod (k - 2) ((n:Int)+1)=j/\((k - 2) % ((n:Int)+1)).toNat=j/\j<=n:=by
 have h2:0<=(k - 2) % ((n:Int)+1):=Int.emod_nonneg _ (by omega);have h3:(k - 2) % ((n:Int)+1)<(n:Int)+1:=Int.emod_lt_of_pos _ (by omega);refine⟨((k - 2) % ((n:Int)+1)).toNat,?_,rfl,by omega⟩;rw[Int.tmod_eq_emod_of_nonneg (by omega)];omega
theorem Zi6(w:World)(b a a':Nat)(D:DM)(s t:List UInt8)(k:Int)(hk1:k<=9223372036854775807)(h:Zp w b D)(hl:Zq D<8796093022208)(ha:Blk w a 9 [Z1 t])(ha':Blk w a' 9 [Z1 s])(hs:s.length<=80)(ht:t.length<=16777216) :
  Calls lA 197 #[.map (some b),.int .i64 k,.pointer (some ⟨a,0,none⟩),.pointer (some ⟨a',0,none⟩)] w fun e w'=>e=.returned (.tuple #[])/\Zp w' b ((DOp.write s t).act k D)/\Touch [b] w w':=by
 have c0:w.cell? ⟨a,0,none⟩=some (Z1 t):=by rw[ha.cell];rfl
 have c1:w.cell? ⟨a',0,none⟩=some (Z1 s):=by rw[ha'.cell];rfl
 have hl':Hid (Zq D<maxLen):=iD (by unfold maxLen;omega);clear hl;replace h:=iD h;clear ha ha';by_cases hk:1<k
 ·obtain⟨j,e1,e2,hj⟩:=Zi5 k t.length hk;have hact:Hid ((DOp.write s t).act k D=Xy D s (t.take j)):=iD (by simp only[DOp.act,U5,if_pos hk,e2]);have hjl:Hid ((t.take j).length<=maxLen):=iD (by rw[List.length_take];unfold maxLen;omega);have e0:IntKind.i64.wrap (k - 2)=k - 2:=lQ _ (by omega);have e3:IntKind.i64.wrap ((t.length:Int)+1)=(t.length:Int)+1:=lQ _ (by omega);have b1:(0:Int)<=(j:Int):=by omega
  have b2:(j:Int)<=(t.length:Int):=by omega
  clear hk1 e2;unfold Z1 at c0;go_enter func197,ntmps197;go_wp2;refine Y7 10 (by kernel_rfl) (by kernel_rfl) ?_;simp only[List.take_succ_cons,List.take_zero,List.drop_succ_cons,List.drop_zero];repeat (first
    | go_big_quiet_step (fail))
  refine lC ?_;rintro _ ⟨nq,rfl⟩;rw[Zi4];refine lS _ rfl (.tmp 8) (.tmp 9) (.tmp 17) 102 rfl 9 9 Qs underlying102 (plainElem (H:=Unit) lA 9) b (Zq D) D rfl h.out hl'.out (Z1 s) (Z1 (t.take j)) (.string s) rfl rfl (O0 s (Qb hs)) (Jl (t.take j)) [] (Gw _ hjl.out) ?_;intro w2 ho2 hm2;replace ho2:=iD (Zp.of ho2);replace hm2:=iD hm2;go_frame;go_wp2;refine lE (v:=.tuple #[]) (lJ (by rfl) _ _ _) rfl ⟨rfl,?_,(Touch.drewN nq).trans (Touch.grown (L:=[b]) hm2.out (by simp)) (fun i hi=>.inl hi)⟩;rw[hact.out];exact ho2.out
 ·have hact:Hid ((DOp.write s t).act k D=Xy D s t):=iD (by simp only[DOp.act,U5,if_neg hk]);go_enter func197,ntmps197;go_wp2_with (at_mapUpdate;refine lS _ rfl (.tmp 18) (.tmp 19) (.tmp 20) 102 rfl 9 9 Qs underlying102 (plainElem (H:=Unit) lA 9) b (Zq D) D rfl h.out hl'.out (Z1 s) (Z1 t) (.string s) rfl rfl (O0 s (Qb hs)) (Jl t) [] (Gw t (Zi1 ht)) ?_;intro w2 ho2 hm2;replace ho2:=iD (Zp.of ho2);replace hm2:=iD hm2);refine lP (v:=.tuple #[]) (lJ (by rfl) _ _ _) rfl ⟨rfl,?_,Touch.grown (L:=[b]) hm2.out (by simp)⟩;rw[hact.out];exact ho2.out
end Go.Proofs.YtefjlobdifjogaaGreatDoor
end
section
namespace Go.Proofs.YtefjlobdifjogaaGreatDoor
open Go.RowKit Go.Maps Go.Sort
theorem callI:InfoOf lA 314 (.agg #[.nilFunc]) 1 8:=⟨Z4r,by simp[l1],by omega⟩
def Z4t(w:World)(g bn bs:Nat)(v:Value)(S:DS)(w':World):Prop:=∃ v',DiskAt w' g bn bs v' S/\Touch (Zf g bn bs v) w w'/\(v'.ownBlock=v.ownBlock ∨ ∀ b,v'.ownBlock=some b->w.heap.size<=b)
theorem Z4t.turned{w w':World}{g bn bs:Nat}{v:Value}{S:DS}(h:Z4t w g bn bs v S w'):Yv w (Zf g bn bs v) g S w':=by
 obtain⟨v',hd,ht,hv⟩:=h;refine⟨ht,_,⟨bn,bs,v',hd,rfl⟩,fun i hi=>?_⟩;rcases DiskAt.mem_foot hi with rfl | rfl | rfl | e
 ·simp[Zf]
 ·simp[Zf]
 ·simp[Zf]
 ·rcases hv with hv | hv
  ·rw[hv] at e;left;simp[Zf,e]
  ·exact .inr (hv i e)
theorem DiskAt.wrote{w w':World}{g bn bs:Nat}{v:Value}{S:DS}{D:DM}(h:DiskAt w g bn bs v S)(ht:Touch [bn] w w')(hm:Zp w' bn D):DiskAt w' g bn bs v { S with now:=D }:=by
 have hg:=h.gne;have hnb:∀ i cs t,Blk w i t cs->i ≠ bn:=fun i cs t hc e=>by
  obtain⟨es,c,he⟩:=h.now.at;subst e;unfold Blk at hc;rw[he] at hc;cases hc
 obtain⟨vs,ho,hop⟩:=h.row;refine⟨h.blk.touch ht (by simpa using hnb g _ _ h.blk),hm,h.sure.touch ht (by simpa using h.ne.symm),h.ne,vs,Zj ho ht (fun b hb=>?_),hop.touch ht (fun i hi cs hc=>hnb i cs _ hc (by simpa using hi))⟩;rcases ho.2 with ⟨rfl,_⟩ | ⟨g',cap,cur,rfl,_,hg',_⟩
 ·cases hb
 ·have : g'=b:=by simpa[lN] using hb
  subst this;have:=hnb g' cur.toList _ (show Blk w g' _ _ from by unfold Blk;simpa using hg');simpa using this
theorem DiskAt.rowed{w w':World}{g bn bs:Nat}{v v':Value}{S:DS}{o:DOp}{vs:List Value}(h:DiskAt w g bn bs v S)(hg:w.grownBy w' v.ownBlock)(ho:w'.ownsRow 0 314 1 v' (S.pend.length+1) vs)(hop:Qt w (S.pend++[o]) vs)
  {w2:World} (h2:w2=w'.setCell ⟨g,2,none⟩ v'):DiskAt w2 g bn bs v' { S with pend:=S.pend++[o] }:=by
 subst h2;have ht:Touch (v.ownBlock.toList) w w':=Touch.grown hg (fun b hb=>by simp[hb]);have hgne:=h.gne;have hnb:Qg w v.ownBlock.toList:=fun i hi=>h.noBox i (by simp[Zf];right;right;right;simpa using hi);obtain⟨vs0,hr,_⟩:=h.row;have hmap:∀ b D,Zp w b D->b ∉ v.ownBlock.toList:=fun b D hm hb=>by
  rcases hr.2 with ⟨rfl,_⟩ | ⟨g',cap,cur,rfl,_,hg',_⟩
  ·cases hb
  ·have : g'=b:=by simpa[lN,eq_comm] using hb
   subst this;obtain⟨es,c,he⟩:=hm.at;rw[he] at hg';cases hg'
 have hb1:Blk w' g 105 (Vn bn bs v S):=h.blk.touch ht (fun hb=>hgne g (by simp only[lV];right;right;exact hb) rfl);have n1:=h.now.touch ht (hmap _ _ h.now);have s1:=h.sure.touch ht (hmap _ _ h.sure);have ht2:Touch [g] w' (w'.setCell ⟨g,2,none⟩ v'):=Touch.setCell _ (by simp);refine⟨hb1.set_ 2 v',n1.touch ht2 (by simpa using hgne bn (by simp)),s1.touch ht2 (by simpa using hgne bs (by simp)),h.ne,vs,?_,(hop.touch ht hnb).touch ht2 (fun i hi cs hc=>by
   have : i=g:=by simpa using hi
   subst this;exact hb1.ne_ hc (by decide) rfl)⟩
 have hv':w'.ownsRow 0 314 1 v' (S.pend++[o]).length vs:=by simpa using ho
 refine Zj hv' ht2 (fun b hb e=>?_);have : b=g:=by simpa using e
 subst this;rcases ho.2 with ⟨rfl,_⟩ | ⟨g',cap,cur,rfl,_,hg',_⟩
 ·cases hb
 ·have : g'=b:=by simpa[lN] using hb
  subst this;unfold Blk at hb1;rw[hg'] at hb1
  injection hb1 with hb1
  injection hb1 with _ ht
  exact absurd ht (by decide)
theorem Zi7(w:World)(b:Nat)(D:DM)(o:DOp)(cl:Value)(k:Int)(hk:k<=9223372036854775807)(h:Zp w b D)(hl:Zq D<8796093022208)(hcl:Vm w o cl)(hok:o.ok) :
  ∃ fn cap,cl=.func (.func fn) #[] cap/\Enters lA fn/\Calls lA fn (#[.map (some b),.int .i64 k]++cap) w fun e w'=>e=.returned (.tuple #[])/\Zp w' b (o.act k D)/\Touch [b] w w':=by
 cases o with
 | write s t =>
  obtain⟨a,a',rfl,h1,h2⟩:=hcl;exact⟨_,_,rfl,lK func197 (by kernel_rfl) rfl,Zi6 w b a a' D s t k hk h hl h1 h2 hok.1 hok.2⟩
 | remove s =>
  obtain⟨a,rfl,h1⟩:=hcl;exact⟨_,_,rfl,lK func205 (by kernel_rfl) rfl,Zi2 w b a D s k h h1 hok⟩
 | rename s t =>
  obtain⟨a,a',rfl,h1,h2⟩:=hcl;exact⟨_,_,rfl,lK func199 (by kernel_rfl) rfl,Zi3 w b a a' D s t k h hl h1 h2 hok.1 hok.2⟩
theorem Z4u(g bn bs:Nat)(v:Value)(S:DS)(o:DOp)(cl:Value)(w:World)(h:DiskAt w g bn bs v S)(hcl:Vm w o cl)(hok:o.ok)(hl:Zq S.now<8796093022208)(hp:S.pend.length<4398046511104) :
  Calls lA 196 #[.pointer (some ⟨g,0,none⟩),cl] w fun e w'=>e=.returned (.int .i64 0)/\Z4t w g bn bs v (S.does o) w':=by
 have c0:w.cell? ⟨g,0,none⟩=some (.map (some bn)):=by rw[h.blk.cell];rfl
 obtain⟨fn,cap,rfl,hen,hc⟩:=Zi7 w bn S.now o cl 1 (by omega) h.now hl hcl hok;replace hcl:=iD hcl;replace hen:=iD hen;replace hc:=iD hc;replace h:=iD h;clear hl;go_enter func196,ntmps196;go_wp2_with fail;rw[hen.out,Oper.upon_enter];refine hc.out.mono ?_;rintro e w1 ⟨rfl,hm1,ht1⟩;have hd1:=h.out.wrote ht1 hm1;have hnb1:Qg w [bn]:=fun i hi=>h.out.noBox i (by simp[Zf];right;left;simpa using hi);have hop1:=iD (hcl.out.touch ht1 hnb1);clear hnb1;obtain⟨vs,hrow,hops⟩:=hd1.row;have c2:w1.cell? ⟨g,2,none⟩=some v:=by rw[hd1.blk.cell];rfl
 have z2:=hd1.blk.frozen 2;have hlt:=hd1.blk.lt;replace hd1:=iD hd1;replace ht1:=iD ht1;replace hrow:=iD hrow;replace hops:=iD hops;clear hm1 c0;have hgn:Hid (some g ≠ v.ownBlock):=iD (fun e=>hd1.out.gne g (by simp[<- e]) rfl);have hone:Hid (∀ u ∈ [lT (.func fn) #[] cap],u.oneCell'=true):=iD (fun u hu=>by rw[lG.1 hu];exact hop1.out.one);go_wp2_with (at_builtin;refine Yt _ rfl (.tmp 15) (.tmp 18) 103 rfl 0 314 (.agg #[.nilFunc]) 1 8 underlying103 callI v S.pend.length vs rfl (hrow.out.alloc _) (fun _=>True) (some ⟨w1.heap.size,0,none⟩) 1 1 [.func (.func fn) #[] cap] rfl rfl (Rd.of_blk (cs:=[.func (.func fn) #[] cap]) (r:=[]) (Blk.new_at rfl) rfl trivial) hone.out (by unfold maxLen;omega) (by omega) (Nat.zero_le _) ?_;intro v' w2 hrow2 hg2 hv2;obtain⟨A',cap',rfl,_,_⟩:=Za hrow2;have hB2:=(hd1.out.blk.alloc _).grown hg2 hgn.out;have z3:=hB2.frozen 2;have c3:w2.cell? ⟨g,2,none⟩=some v:=(by rw[hB2.cell];rfl);replace hB2:=iD hB2;replace hrow2:=iD hrow2;replace hg2:=iD hg2;replace hv2:=iD hv2;go_frame);go_ret;have hb1:Below w1.heap.size w1 (w1.alloc (Obj.cells #[lT (Fn.func fn) #[] cap] 314)):=bL;have hd2:=hd1.out.below hb1;have ht2:=Touch.ofBelow (L:=[]) hb1;have hops2:Qt (w1.alloc (Obj.cells #[lT (Fn.func fn) #[] cap] 314)) (S.pend++[o]) (vs++[.func (.func fn) #[] cap]):=(hops.out.snoc hop1.out).touch ht2 (by simp[Qg]);refine⟨rfl,_,hd2.rowed hg2.out hrow2.out hops2 rfl,?_,?_⟩
 ·refine (ht1.out.mono (L':=Zf g bn bs v) (fun i hi=>.inl (by have : i=bn:=(by simpa using hi);rw[this];simp[Zf]))).trans (L':=Zf g bn bs v) ?_ (fun i hi=>.inl hi);refine (Touch.ofBelow hb1).trans (L':=Zf g bn bs v) ?_ (fun i hi=>.inl hi);exact (Touch.grown (L:=Zf g bn bs v) hg2.out (fun b hb=>by simp[Zf,hb])).trans (Touch.setCell (L:=Zf g bn bs v) _ (by simp[Zf])) (fun i hi=>.inl hi)
 ·rcases hv2.out with hv | hv
  ·exact .inl hv
  ·right;intro b hb;rw[hv] at hb;have:=ht1.out.size;simp at hb;omega
end Go.Proofs.YtefjlobdifjogaaGreatDoor
end
section
namespace Go.Proofs.YtefjlobdifjogaaGreatDoor
open Go.RowKit Go.Maps Go.Sort
theorem Je(S:DS):S.tick.now=S.now:=by unfold DS.tick;split <;> rfl
theorem Z2g(S:DS):S.tick.sure=S.sure:=by unfold DS.tick;split <;> rfl
theorem Un(S:DS):S.tick.pend=S.pend:=by unfold DS.tick;split <;> rfl
theorem Z0j(S:DS):S.tick.room=S.room:=by unfold DS.tick;split <;> rfl
theorem Q0{w:World}{p:Addr}{v:Value}(h:w.cell? p=some v)(s:Xc w):s.1.cell? p=some v:=by
 rw[s.2.cell (World.block_lt_of_cell? _ _ h)];exact h
theorem Zp.over{w:World}{b:Nat}{D:DM}(h:Zp w b D)(s:Xc w):Zp s.1 b D:=h.block (s.2.block b h.lt)
structure Asked (S:DS):Prop extends S.Good where
 few2:S.pend.length<4398046511104
theorem Z4v{w:World}(s:List UInt8):Blk (w.alloc (.cells #[Z1 s] 9)) w.heap.size 9 [Z1 s]:=Blk.new_at (cs:=[Z1 s]) rfl
theorem Z92(g bn bs:Nat)(v:Value)(S:DS)(s t:List UInt8)(w:World)(h:DiskAt w g bn bs v S)(hA:Asked S)(hs:s.length<=140737488355328)(ht:t.length<=140737488355328) :
  Calls lA 118 #[.pointer (some ⟨g,0,none⟩),Z1 s,Z1 t] w fun e w'=>e=.returned (.int .i64 ((Call.write s t).errno S))/\Yv w (Zf g bn bs v) g ((Call.write s t).turn S) w':=by
 have hbl:Below w.heap.size w ((w.alloc (.cells #[Z1 s] 9)).alloc (.cells #[Z1 t] 9)):=bL.alloc (by simp) _;have hB1:Blk ((w.alloc (.cells #[Z1 s] 9)).alloc (.cells #[Z1 t] 9)) w.heap.size 9 [Z1 s]:=(Z4v s).alloc _;have hB2:Blk ((w.alloc (.cells #[Z1 s] 9)).alloc (.cells #[Z1 t] 9)) (w.heap.size+1) 9 [Z1 t]:=Blk.new_at (cs:=[Z1 t]) (by simp);have hd0:=h.below hbl;have hA':=iD hA;replace h:=iD h;go_enter func118,ntmps118;go_wp2_with fail;generalize ((w.alloc (.cells #[Z1 s] 9)).alloc (.cells #[Z1 t] 9))=w0 at hbl hB1 hB2 hd0 ⊢;refine (Z2f g bn bs v S w0 hd0 hA.fuse0 hA.fuse1).mono ?_;rintro e w1 ⟨rfl,hd1,ht1,hz1⟩;have hB1':=hB1.touch ht1 (by have:=hB1.ne_ hd0.blk (by decide);simpa using this);have hB2':=hB2.touch ht1 (by have:=hB2.ne_ hd0.blk (by decide);simpa using this);have htt:Touch (Zf g bn bs v) w w1:=(Touch.ofBelow hbl).trans ht1 (fun i hi=>.inl (by have : i=g:=(by simpa using hi);rw[this];simp[Zf]));have hend:∀ w',Below w1.heap.size w1 w'->Yv w (Zf g bn bs v) g S.tick w':=fun w' hb=>Yv.then htt (fun i hi=>.inl hi) (Yv.same ⟨bn,bs,v,hd1,rfl⟩ hb);replace hend:=iD hend;clear hbl hB1 hB2 hd0 ht1 hz1;cases ho:S.tick.off with
 | true =>
  have hp:Hid (S.powE=15):=iD (by simp[DS.powE,ho]);have he:Hid ((Call.write s t).errno S=15):=iD (by simp[Call.errno,ho]);have hu:Hid ((Call.write s t).turn S=S.tick):=iD (by simp[Call.turn,ho]);rw[hp.out];clear hA ho htt hd1 hB1' hB2';go_wp2;go_ret;rw[hu.out];exact⟨Xt he.out.symm,hend.out _ (lB _ _)⟩
 | false =>
  have hp:Hid (S.powE=0):=iD (by simp[DS.powE,ho]);rw[hp.out];have k1:w1.cell? ⟨w.heap.size,0,none⟩=some (Z1 s):=by rw[hB1'.cell];rfl
  have k2:w1.cell? ⟨w.heap.size+1,0,none⟩=some (Z1 t):=by rw[hB2'.cell];rfl
  have hnm:=iD (fun w=>Z0i s w hs);cases hn:Y3 s with
  | false =>
   have he:Hid ((Call.write s t).errno S=11):=iD (by simp[Call.errno,ho,Call.err,hn]);have hu:Hid ((Call.write s t).turn S=S.tick):=iD (by simp[Call.turn,ho,Call.err,hn]);rw[hn] at hnm;clear hA ho htt hd1 hB1' hB2' hn;go_wp2_with fail;refine (hnm.out _).mono ?_;rintro e w' ⟨rfl,rfl⟩;go_wp2;go_ret;rw[hu.out];exact⟨Xt he.out.symm,hend.out _ (lB _ _)⟩
  | true =>
   rw[hn] at hnm;have hM:=hd1.now;have c0:w1.cell? ⟨g,0,none⟩=some (.map (some bn)):=by rw[hd1.blk.cell];rfl
   have c3:w1.cell? ⟨g,3,none⟩=some (.int .i64 S.room):=by rw[hd1.blk.cell];show some (Value.int .i64 S.tick.room)=_;rw[Z0j]
   rw[Je] at hM;have hs80:s.length<=80:=by simp[Y3] at hn;exact hn.2
   have q0:=fun s'=>Q0 c0 s';have q1:=fun s'=>Q0 k1 s';have hlook:∀ s':Xc w1,(lU 102 (.map (some bn)) (Z1 s) true).run lA s'.1=.ok (.tuple #[Z1 (fS S.now s),.bool (Zz S.now s)]) s'.1:=fun s'=>(hM.over s').look (Qb hs80);have hdoes:=iD (Z4u g bn bs v S.tick (.write s t));have htl:=hM.text_le (Qb hs80);have hsum:Yr S.now<=16777216:=by have:=hA.sum;have:=hA.room1;omega
   have hxs:(fS S.now s).length<=Yr S.now:=by have:=Z1a (k:=s) hA.now;omega
   have hfew:=hA.few;have hr0:=hA.room0;have hr1:=hA.room1;obtain⟨x,hx⟩:∃ x,x=fS S.now s:=⟨_,rfl⟩;obtain⟨hb,hhb⟩:∃ hb,hb=Zz S.now s:=⟨_,rfl⟩;obtain⟨m,hm⟩:∃ m,m=Yr S.now:=⟨_,rfl⟩;obtain⟨n,hnn⟩:∃ n,n=Zq S.now:=⟨_,rfl⟩;obtain⟨r,hr⟩:∃ r,r=S.room:=⟨_,rfl⟩;rw[<-hx,<-hhb] at hlook;rw[<-hx,<-hm] at hxs;rw[<-hx] at htl;rw[<-hm] at hsum;rw[<-hnn] at hfew;rw[<-hr] at hr0 hr1 c3;have hfb:Hid (K6 S.tick s t=(decide (r - (t.length:Int)<(m:Int) - (x.length:Int)) || decide (600<n+(if hb then 0 else 1)))):=iD (by rw[hr,hm,hx,hnn,hhb];unfold K6;rw[Je,Z0j]);have hsz:Hid (∀ s':Xc w1,Calls lA 195 #[.map (some bn)] s'.1 fun e w'=>e=.returned (.int .i64 (m:Int))/\Below s'.1.heap.size s'.1 w'):=iD (fun s'=>by rw[hm];exact Zi0 s'.1 bn S.now (hM.over s') (by omega));have hln:Hid (∀ s':Xc w1,s'.1.ownsMap lA 9 (plainElem (H:=Unit) lA 9) bn n S.now):=iD (fun s'=>by rw[hnn];exact hM.over s');have hln':Hid (lL S.now=n):=iD hnn.symm;replace hx:=iD hx;replace hhb:=iD hhb;replace hm:=iD hm;replace hnn:=iD hnn;replace hr:=iD hr;replace hd1:=iD hd1;replace hB1':=iD hB1';replace hB2':=iD hB2';replace htt:=iD htt;replace htl:=iD htl;replace ho:=iD ho;replace hM:=iD hM;have hN:=iD hn;have q2:=fun s'=>Q0 k2 s';have q3:=fun s'=>Q0 c3 s';have e1:IntKind.i64.wrap ((m:Int) - (x.length:Int))=(m:Int) - (x.length:Int):=lQ _ (by omega);have e2:IntKind.i64.wrap (r - (t.length:Int))=r - (t.length:Int):=lQ _ (by omega);clear hA c0 c3 hn;cases hb with
   | true =>
    go_wp2_with fail;refine (hnm.out _).mono ?_;rintro e w' ⟨rfl,rfl⟩;go_wp2_with fail;clear k1 k2;haveI:=Qr w1;refine Kn (by kernel_rfl) (by kernel_rfl) ?_;repeat (first | go_big_quiet_step (fail))
    refine lC ?_;rintro _ ⟨s6,rfl⟩;have q0':=q0 s6;go_wp2_with (at_len;refine wpList_len_own _ rfl (.tmp 31) 102 rfl 9 9 underlying102 (plainElem (H:=Unit) lA 9) bn n S.now rfl (hln.out s6) ?_;rw[hln'.out];go_frame);have p0:=fun s':Xc s6.1=>Q0 (q0 s6) s';have p2:=fun s':Xc s6.1=>Q0 (q2 s6) s';have p3:=fun s':Xc s6.1=>Q0 (q3 s6) s';have hsz':Hid (∀ s':Xc s6.1,Calls lA 195 #[.map (some bn)] s'.1 fun e w'=>e=.returned (.int .i64 (m:Int))/\Below s'.1.heap.size s'.1 w'):=iD (fun s'=>hsz.out ⟨s'.1,s6.2.trans (s'.2.mono s6.2.size)⟩);clear q0 q1 q2 q3 hlook hsz q0';haveI:=Qr s6.1;unfold Z1 at p2 ⊢;by_cases hc:r - (t.length:Int)<(m:Int) - (x.length:Int)
    ·have d1:decide (r - (t.length:Int)<(m:Int) - (x.length:Int))=true:=by simpa using hc
     have hF:Hid (K6 S.tick s t=true):=iD (by rw[hfb.out,d1];rfl);clear hc;refine Kn (by kernel_rfl) (by kernel_rfl) ?_;repeat (first | go_big_quiet_step (first | (go_at_call 195;exact Vj _ (hsz'.out _))))
     refine lC ?_;rintro _ ⟨s7,rfl⟩;go_wp2;go_ret;refine⟨Xt (by simp[Call.errno,ho.out,Call.err,hN.out,hF.out]),?_⟩;rw[show (Call.write s t).turn S=S.tick from by simp[Call.turn,ho.out,Call.err,hN.out,hF.out]];exact hend.out _ (s6.2.trans (s7.2.mono s6.2.size))
    ·have d1:decide (r - (t.length:Int)<(m:Int) - (x.length:Int))=false:=by simpa using hc
     have htr:Hid (t.length<=16777216):=iD (by omega);clear hc;by_cases hd:600<n
     ·have d2:decide ((600:Int)<(n:Int))=true:=by simp;omega
      have hF:Hid (K6 S.tick s t=true):=iD (by rw[hfb.out,d1];simp;omega);clear hd;refine Kn (by kernel_rfl) (by kernel_rfl) ?_;repeat (first | go_big_quiet_step (first | (go_at_call 195;exact Vj _ (hsz'.out _))))
      refine lC ?_;rintro _ ⟨s7,rfl⟩;go_wp2;go_ret;refine⟨Xt (by simp[Call.errno,ho.out,Call.err,hN.out,hF.out]),?_⟩;rw[show (Call.write s t).turn S=S.tick from by simp[Call.turn,ho.out,Call.err,hN.out,hF.out]];exact hend.out _ (s6.2.trans (s7.2.mono s6.2.size))
     ·have d2:decide ((600:Int)<(n:Int))=false:=by simp;omega
      have hF:Hid (K6 S.tick s t=false):=iD (by rw[hfb.out,d1];simp;omega);clear hd;refine Kn (by kernel_rfl) (by kernel_rfl) ?_;repeat (first | go_big_quiet_step (first | (go_at_call 195;exact Vj _ (hsz'.out _))))
      refine lC ?_;rintro _ ⟨s7,rfl⟩;have hb7:Below w1.heap.size w1 s7.1:=s6.2.trans (s7.2.mono s6.2.size);have hB1q:=hB1'.out.below hb7 hB1'.out.lt;have hB2q:=hB2'.out.below hb7 hB2'.out.lt;have hd7:=hd1.out.below hb7;replace hb7:=iD hb7;replace hB1q:=iD hB1q;replace hB2q:=iD hB2q;replace hd7:=iD hd7;go_wp2_with fail;refine (hdoes.out _ _ hd7.out ⟨_,_,rfl,hB2q.out,hB1q.out⟩ ⟨hs80,htr.out⟩ (by rw[Je,<-hnn.out];omega) (by rw[Un];exact hA'.out.few2)).mono ?_;rintro e w8 ⟨rfl,hD8⟩;replace hD8:=iD hD8;go_wp2;go_ret;refine⟨Xt (by simp[Call.errno,ho.out,Call.err,hN.out,hF.out]),?_⟩;rw[show (Call.write s t).turn S=S.tick.does (.write s t) from by simp[Call.turn,ho.out,Call.err,hN.out,hF.out,Call.done]];exact Yv.then (htt.out.trans (Touch.ofBelow (L:=Zf g bn bs v) hb7.out) (fun i hi=>.inl hi)) (fun i hi=>.inl hi) hD8.out.turned
   | false =>
    go_wp2_with fail;refine (hnm.out _).mono ?_;rintro e w' ⟨rfl,rfl⟩;go_wp2_with fail;clear k1 k2;haveI:=Qr w1;refine Kn (by kernel_rfl) (by kernel_rfl) ?_;repeat (first | go_big_quiet_step (fail))
    refine lC ?_;rintro _ ⟨s6,rfl⟩;have q0':=q0 s6;go_wp2_with (at_len;refine wpList_len_own _ rfl (.tmp 31) 102 rfl 9 9 underlying102 (plainElem (H:=Unit) lA 9) bn n S.now rfl (hln.out s6) ?_;rw[hln'.out];go_frame);have p0:=fun s':Xc s6.1=>Q0 (q0 s6) s';have p2:=fun s':Xc s6.1=>Q0 (q2 s6) s';have p3:=fun s':Xc s6.1=>Q0 (q3 s6) s';have hsz':Hid (∀ s':Xc s6.1,Calls lA 195 #[.map (some bn)] s'.1 fun e w'=>e=.returned (.int .i64 (m:Int))/\Below s'.1.heap.size s'.1 w'):=iD (fun s'=>hsz.out ⟨s'.1,s6.2.trans (s'.2.mono s6.2.size)⟩);clear q0 q1 q2 q3 hlook hsz q0';haveI:=Qr s6.1;unfold Z1 at p2 ⊢;by_cases hc:r - (t.length:Int)<(m:Int) - (x.length:Int)
    ·have d1:decide (r - (t.length:Int)<(m:Int) - (x.length:Int))=true:=by simpa using hc
     have hF:Hid (K6 S.tick s t=true):=iD (by rw[hfb.out,d1];rfl);clear hc;refine Kn (by kernel_rfl) (by kernel_rfl) ?_;repeat (first | go_big_quiet_step (first | (go_at_call 195;exact Vj _ (hsz'.out _))))
     refine lC ?_;rintro _ ⟨s7,rfl⟩;go_wp2;go_ret;refine⟨Xt (by simp[Call.errno,ho.out,Call.err,hN.out,hF.out]),?_⟩;rw[show (Call.write s t).turn S=S.tick from by simp[Call.turn,ho.out,Call.err,hN.out,hF.out]];exact hend.out _ (s6.2.trans (s7.2.mono s6.2.size))
    ·have d1:decide (r - (t.length:Int)<(m:Int) - (x.length:Int))=false:=by simpa using hc
     have htr:Hid (t.length<=16777216):=iD (by omega);clear hc;by_cases hd:600<n+1
     ·have d2:decide ((600:Int)<(n:Int)+1)=true:=by simp;omega
      have hF:Hid (K6 S.tick s t=true):=iD (by rw[hfb.out,d1];simp;omega);clear hd;refine Kn (by kernel_rfl) (by kernel_rfl) ?_;repeat (first | go_big_quiet_step (first | (go_at_call 195;exact Vj _ (hsz'.out _))))
      refine lC ?_;rintro _ ⟨s7,rfl⟩;go_wp2;go_ret;refine⟨Xt (by simp[Call.errno,ho.out,Call.err,hN.out,hF.out]),?_⟩;rw[show (Call.write s t).turn S=S.tick from by simp[Call.turn,ho.out,Call.err,hN.out,hF.out]];exact hend.out _ (s6.2.trans (s7.2.mono s6.2.size))
     ·have d2:decide ((600:Int)<(n:Int)+1)=false:=by simp;omega
      have hF:Hid (K6 S.tick s t=false):=iD (by rw[hfb.out,d1];simp;omega);clear hd;refine Kn (by kernel_rfl) (by kernel_rfl) ?_;repeat (first | go_big_quiet_step (first | (go_at_call 195;exact Vj _ (hsz'.out _))))
      refine lC ?_;rintro _ ⟨s7,rfl⟩;have hb7:Below w1.heap.size w1 s7.1:=s6.2.trans (s7.2.mono s6.2.size);have hB1q:=hB1'.out.below hb7 hB1'.out.lt;have hB2q:=hB2'.out.below hb7 hB2'.out.lt;have hd7:=hd1.out.below hb7;replace hb7:=iD hb7;replace hB1q:=iD hB1q;replace hB2q:=iD hB2q;replace hd7:=iD hd7;go_wp2_with fail;refine (hdoes.out _ _ hd7.out ⟨_,_,rfl,hB2q.out,hB1q.out⟩ ⟨hs80,htr.out⟩ (by rw[Je,<-hnn.out];omega) (by rw[Un];exact hA'.out.few2)).mono ?_;rintro e w8 ⟨rfl,hD8⟩;replace hD8:=iD hD8;go_wp2;go_ret;refine⟨Xt (by simp[Call.errno,ho.out,Call.err,hN.out,hF.out]),?_⟩;rw[show (Call.write s t).turn S=S.tick.does (.write s t) from by simp[Call.turn,ho.out,Call.err,hN.out,hF.out,Call.done]];exact Yv.then (htt.out.trans (Touch.ofBelow (L:=Zf g bn bs v) hb7.out) (fun i hi=>.inl hi)) (fun i hi=>.inl hi) hD8.out.turned
end Go.Proofs.YtefjlobdifjogaaGreatDoor
end
section
namespace Go.Proofs.YtefjlobdifjogaaGreatDoor
open Go.RowKit Go.Maps Go.Sort
theorem Z93(g bn bs:Nat)(v:Value)(S:DS)(s:List UInt8)(w:World)(h:DiskAt w g bn bs v S)(hA:Asked S)(hs:s.length<=140737488355328) :
  Calls lA 124 #[.pointer (some ⟨g,0,none⟩),Z1 s] w fun e w'=>e=.returned (.int .i64 ((Call.remove s).errno S))/\Yv w (Zf g bn bs v) g ((Call.remove s).turn S) w':=by
 have hbl:Below w.heap.size w (w.alloc (.cells #[Z1 s] 9)):=bL;have hB1:Blk (w.alloc (.cells #[Z1 s] 9)) w.heap.size 9 [Z1 s]:=Z4v s;have hd0:=h.below hbl;have hA':=iD hA;replace h:=iD h;go_enter func124,ntmps124;go_wp2_with fail;generalize (w.alloc (.cells #[Z1 s] 9))=w0 at hbl hB1 hd0 ⊢;refine (Z2f g bn bs v S w0 hd0 hA.fuse0 hA.fuse1).mono ?_;rintro e w1 ⟨rfl,hd1,ht1,hz1⟩;have hB1':=hB1.touch ht1 (by have:=hB1.ne_ hd0.blk (by decide);simpa using this);have htt:Touch (Zf g bn bs v) w w1:=(Touch.ofBelow hbl).trans ht1 (fun i hi=>.inl (by have : i=g:=(by simpa using hi);rw[this];simp[Zf]));have hend:∀ w',Below w1.heap.size w1 w'->Yv w (Zf g bn bs v) g S.tick w':=fun w' hb=>Yv.then htt (fun i hi=>.inl hi) (Yv.same ⟨bn,bs,v,hd1,rfl⟩ hb);replace hend:=iD hend;clear hbl hB1 hd0 ht1 hz1;cases ho:S.tick.off with
 | true =>
  have hp:Hid (S.powE=15):=iD (by simp[DS.powE,ho]);have he:Hid ((Call.remove s).errno S=15):=iD (by simp[Call.errno,ho]);have hu:Hid ((Call.remove s).turn S=S.tick):=iD (by simp[Call.turn,ho]);rw[hp.out];clear hA ho htt hd1 hB1';go_wp2;go_ret;rw[hu.out];exact⟨Xt he.out.symm,hend.out _ (lB _ _)⟩
 | false =>
  have hp:Hid (S.powE=0):=iD (by simp[DS.powE,ho]);rw[hp.out];have k1:w1.cell? ⟨w.heap.size,0,none⟩=some (Z1 s):=by rw[hB1'.cell];rfl
  have hnm:=iD (fun w=>Z0i s w hs);cases hn:Y3 s with
  | false =>
   have he:Hid ((Call.remove s).errno S=11):=iD (by simp[Call.errno,ho,Call.err,hn]);have hu:Hid ((Call.remove s).turn S=S.tick):=iD (by simp[Call.turn,ho,Call.err,hn]);rw[hn] at hnm;clear hA ho htt hd1 hB1' hn;go_wp2_with fail;refine (hnm.out _).mono ?_;rintro e w' ⟨rfl,rfl⟩;go_wp2;go_ret;rw[hu.out];exact⟨Xt he.out.symm,hend.out _ (lB _ _)⟩
  | true =>
   rw[hn] at hnm;have hM:=hd1.now;have c0:w1.cell? ⟨g,0,none⟩=some (.map (some bn)):=by rw[hd1.blk.cell];rfl
   rw[Je] at hM;have hs80:s.length<=80:=by simp[Y3] at hn;exact hn.2
   have q0:=fun s'=>Q0 c0 s';have q1:=fun s'=>Q0 k1 s';have hlook:∀ s':Xc w1,(lU 102 (.map (some bn)) (Z1 s) true).run lA s'.1=.ok (.tuple #[Z1 (fS S.now s),.bool (Zz S.now s)]) s'.1:=fun s'=>(hM.over s').look (Qb hs80);have hdoes:=iD (Z4u g bn bs v S.tick (.remove s));have hfew:=hA.few;obtain⟨x,hx⟩:∃ x,x=fS S.now s:=⟨_,rfl⟩;obtain⟨hb,hhb⟩:∃ hb,hb=Zz S.now s:=⟨_,rfl⟩;rw[<-hx,<-hhb] at hlook;replace hx:=iD hx;replace hhb:=iD hhb;replace hd1:=iD hd1;replace hB1':=iD hB1';replace htt:=iD htt;replace ho:=iD ho;replace hfew:=iD hfew;have hN:=iD hn;clear hA c0 hM hn;cases hb with
   | true =>
    go_wp2_with fail;refine (hnm.out _).mono ?_;rintro e w' ⟨rfl,rfl⟩;go_wp2_with fail;haveI:=Qr w1;refine Kn (by kernel_rfl) (by kernel_rfl) ?_;repeat (first | go_big_quiet_step (fail))
    refine lC ?_;rintro _ ⟨s7,rfl⟩;have hb7:Below w1.heap.size w1 s7.1:=s7.2;have hB1q:=hB1'.out.below hb7 hB1'.out.lt;have hd7:=hd1.out.below hb7;replace hb7:=iD hb7;replace hB1q:=iD hB1q;replace hd7:=iD hd7;go_wp2_with fail;refine (hdoes.out _ _ hd7.out ⟨_,rfl,hB1q.out⟩ hs80 (by rw[Je];have:=hfew.out;omega) (by rw[Un];exact hA'.out.few2)).mono ?_;rintro e w8 ⟨rfl,hD8⟩;replace hD8:=iD hD8;go_wp2;go_ret;refine⟨Xt (by simp[Call.errno,ho.out,Call.err,hN.out,Je,<-hhb.out]),?_⟩;rw[show (Call.remove s).turn S=S.tick.does (.remove s) from by simp[Call.turn,ho.out,Call.err,hN.out,Je,<-hhb.out,Call.done]];exact Yv.then (htt.out.trans (Touch.ofBelow (L:=Zf g bn bs v) hb7.out) (fun i hi=>.inl hi)) (fun i hi=>.inl hi) hD8.out.turned
   | false =>
    go_wp2_with fail;refine (hnm.out _).mono ?_;rintro e w' ⟨rfl,rfl⟩;go_wp2_with fail;haveI:=Qr w1;refine Kn (by kernel_rfl) (by kernel_rfl) ?_;repeat (first | go_big_quiet_step (fail))
    refine lC ?_;rintro _ ⟨s7,rfl⟩;go_wp2;go_ret;refine⟨Xt (by simp[Call.errno,ho.out,Call.err,hN.out,Je,<-hhb.out]),?_⟩;rw[show (Call.remove s).turn S=S.tick from by simp[Call.turn,ho.out,Call.err,hN.out,Je,<-hhb.out]];exact hend.out _ s7.2
theorem Zi8(g bn bs:Nat)(v:Value)(S:DS)(s t:List UInt8)(w:World)(h:DiskAt w g bn bs v S)(hA:Asked S)(hs:s.length<=140737488355328)(ht:t.length<=140737488355328) :
  Calls lA 121 #[.pointer (some ⟨g,0,none⟩),Z1 s,Z1 t] w fun e w'=>e=.returned (.int .i64 ((Call.rename s t).errno S))/\Yv w (Zf g bn bs v) g ((Call.rename s t).turn S) w':=by
 have hbl:Below w.heap.size w ((w.alloc (.cells #[Z1 s] 9)).alloc (.cells #[Z1 t] 9)):=bL.alloc (by simp) _;have hB1:Blk ((w.alloc (.cells #[Z1 s] 9)).alloc (.cells #[Z1 t] 9)) w.heap.size 9 [Z1 s]:=(Z4v s).alloc _;have hB2:Blk ((w.alloc (.cells #[Z1 s] 9)).alloc (.cells #[Z1 t] 9)) (w.heap.size+1) 9 [Z1 t]:=Blk.new_at (cs:=[Z1 t]) (by simp);have hd0:=h.below hbl;have hA':=iD hA;replace h:=iD h;go_enter func121,ntmps121;go_wp2_with fail;generalize ((w.alloc (.cells #[Z1 s] 9)).alloc (.cells #[Z1 t] 9))=w0 at hbl hB1 hB2 hd0 ⊢;refine (Z2f g bn bs v S w0 hd0 hA.fuse0 hA.fuse1).mono ?_;rintro e w1 ⟨rfl,hd1,ht1,hz1⟩;have hB1':=hB1.touch ht1 (by have:=hB1.ne_ hd0.blk (by decide);simpa using this);have hB2':=hB2.touch ht1 (by have:=hB2.ne_ hd0.blk (by decide);simpa using this);have htt:Touch (Zf g bn bs v) w w1:=(Touch.ofBelow hbl).trans ht1 (fun i hi=>.inl (by have : i=g:=(by simpa using hi);rw[this];simp[Zf]));have hend:∀ w',Below w1.heap.size w1 w'->Yv w (Zf g bn bs v) g S.tick w':=fun w' hb=>Yv.then htt (fun i hi=>.inl hi) (Yv.same ⟨bn,bs,v,hd1,rfl⟩ hb);replace hend:=iD hend;clear hbl hB1 hB2 hd0 ht1 hz1;cases ho:S.tick.off with
 | true =>
  have hp:Hid (S.powE=15):=iD (by simp[DS.powE,ho]);have he:Hid ((Call.rename s t).errno S=15):=iD (by simp[Call.errno,ho]);have hu:Hid ((Call.rename s t).turn S=S.tick):=iD (by simp[Call.turn,ho]);rw[hp.out];clear hA ho htt hd1 hB1' hB2';go_wp2;go_ret;rw[hu.out];exact⟨Xt he.out.symm,hend.out _ (lB _ _)⟩
 | false =>
  have hp:Hid (S.powE=0):=iD (by simp[DS.powE,ho]);rw[hp.out];have k1:w1.cell? ⟨w.heap.size,0,none⟩=some (Z1 s):=by rw[hB1'.cell];rfl
  have k2:w1.cell? ⟨w.heap.size+1,0,none⟩=some (Z1 t):=by rw[hB2'.cell];rfl
  have hnm2:=iD (fun w=>Z0i t w ht);have hnm:=iD (fun w=>Z0i s w hs);cases hn:Y3 s with
  | false =>
   have he:Hid ((Call.rename s t).errno S=11):=iD (by simp[Call.errno,ho,Call.err,hn]);have hu:Hid ((Call.rename s t).turn S=S.tick):=iD (by simp[Call.turn,ho,Call.err,hn]);rw[hn] at hnm;clear hA ho htt hd1 hB1' hB2' hn;go_wp2_with fail;refine (hnm.out _).mono ?_;rintro e w' ⟨rfl,rfl⟩;go_wp2;go_ret;rw[hu.out];exact⟨Xt he.out.symm,hend.out _ (lB _ _)⟩
  | true =>
   rw[hn] at hnm;cases hn2:Y3 t with
   | false =>
    have he:Hid ((Call.rename s t).errno S=11):=iD (by simp[Call.errno,ho,Call.err,hn,hn2]);have hu:Hid ((Call.rename s t).turn S=S.tick):=iD (by simp[Call.turn,ho,Call.err,hn,hn2]);rw[hn2] at hnm2;clear hA ho htt hd1 hB1' hB2' hn hn2;go_wp2_with fail;refine (hnm.out _).mono ?_;rintro e w' ⟨rfl,rfl⟩;go_wp2_with fail;refine (hnm2.out _).mono ?_;rintro e w' ⟨rfl,rfl⟩;go_wp2;go_ret;rw[hu.out];exact⟨Xt he.out.symm,hend.out _ (lB _ _)⟩
   | true =>
    rw[hn2] at hnm2;have hM:=hd1.now;have c0:w1.cell? ⟨g,0,none⟩=some (.map (some bn)):=by rw[hd1.blk.cell];rfl
    rw[Je] at hM;have hs80:s.length<=80:=by simp[Y3] at hn;exact hn.2
    have ht80:t.length<=80:=by simp[Y3] at hn2;exact hn2.2
    have q0:=fun s'=>Q0 c0 s';have q1:=fun s'=>Q0 k1 s';have hlook:∀ s':Xc w1,(lU 102 (.map (some bn)) (Z1 s) true).run lA s'.1=.ok (.tuple #[Z1 (fS S.now s),.bool (Zz S.now s)]) s'.1:=fun s'=>(hM.over s').look (Qb hs80);have hdoes:=iD (Z4u g bn bs v S.tick (.rename s t));have hfew:=hA.few;obtain⟨x,hx⟩:∃ x,x=fS S.now s:=⟨_,rfl⟩;obtain⟨hb,hhb⟩:∃ hb,hb=Zz S.now s:=⟨_,rfl⟩;rw[<-hx,<-hhb] at hlook;replace hx:=iD hx;replace hhb:=iD hhb;replace hd1:=iD hd1;replace hB1':=iD hB1';replace hB2':=iD hB2';replace htt:=iD htt;replace ho:=iD ho;replace hfew:=iD hfew;have hN:=iD hn;have hN2:=iD hn2;clear hA c0 hM hn hn2;cases hb with
    | true =>
     go_wp2_with fail;refine (hnm.out _).mono ?_;rintro e w' ⟨rfl,rfl⟩;go_wp2_with fail;refine (hnm2.out _).mono ?_;rintro e w' ⟨rfl,rfl⟩;go_wp2_with fail;haveI:=Qr w1;refine Kn (by kernel_rfl) (by kernel_rfl) ?_;repeat (first | go_big_quiet_step (fail))
     refine lC ?_;rintro _ ⟨s7,rfl⟩;have hb7:Below w1.heap.size w1 s7.1:=s7.2;have hB1q:=hB1'.out.below hb7 hB1'.out.lt;have hB2q:=hB2'.out.below hb7 hB2'.out.lt;have hd7:=hd1.out.below hb7;replace hb7:=iD hb7;replace hB1q:=iD hB1q;replace hB2q:=iD hB2q;replace hd7:=iD hd7;go_wp2_with fail;refine (hdoes.out _ _ hd7.out ⟨_,_,rfl,hB1q.out,hB2q.out⟩ ⟨hs80,ht80⟩ (by rw[Je];have:=hfew.out;omega) (by rw[Un];exact hA'.out.few2)).mono ?_;rintro e w8 ⟨rfl,hD8⟩;replace hD8:=iD hD8;go_wp2;go_ret;refine⟨Xt (by simp[Call.errno,ho.out,Call.err,hN.out,hN2.out,Je,<-hhb.out]),?_⟩;rw[show (Call.rename s t).turn S=S.tick.does (.rename s t) from by simp[Call.turn,ho.out,Call.err,hN.out,hN2.out,Je,<-hhb.out,Call.done]];exact Yv.then (htt.out.trans (Touch.ofBelow (L:=Zf g bn bs v) hb7.out) (fun i hi=>.inl hi)) (fun i hi=>.inl hi) hD8.out.turned
    | false =>
     go_wp2_with fail;refine (hnm.out _).mono ?_;rintro e w' ⟨rfl,rfl⟩;go_wp2_with fail;refine (hnm2.out _).mono ?_;rintro e w' ⟨rfl,rfl⟩;go_wp2_with fail;haveI:=Qr w1;refine Kn (by kernel_rfl) (by kernel_rfl) ?_;repeat (first | go_big_quiet_step (fail))
     refine lC ?_;rintro _ ⟨s7,rfl⟩;go_wp2;go_ret;refine⟨Xt (by simp[Call.errno,ho.out,Call.err,hN.out,hN2.out,Je,<-hhb.out]),?_⟩;rw[show (Call.rename s t).turn S=S.tick from by simp[Call.turn,ho.out,Call.err,hN.out,hN2.out,Je,<-hhb.out]];exact hend.out _ s7.2
end Go.Proofs.YtefjlobdifjogaaGreatDoor
end
section
namespace Go.Proofs.YtefjlobdifjogaaGreatDoor
open Go.RowKit Go.Maps Go.Sort
theorem Z94(w:World):w.ownsRow 0 314 1 (.slice none 0 0) 0 []:=⟨rfl,.inl ⟨rfl,rfl⟩⟩
theorem Z95(g bn bs:Nat)(v:Value)(S:DS)(w:World)(h:DiskAt w g bn bs v S)(hF:S.Fit) :
  Calls lA 119 #[.pointer (some ⟨g,0,none⟩)] w fun e w'=>e=.returned (.int .i64 (Call.sync.errno S))/\Yv w (Zf g bn bs v) g (Call.sync.turn S) w':=by
 have hpw:=iD (Z2f g bn bs v S w h hF.fuse0 hF.fuse1);clear h hF;go_enter func119,ntmps119;go_wp2_with fail;refine hpw.out.mono ?_;rintro e w1 ⟨rfl,hd1,ht1,hz1⟩;have htt:Touch (Zf g bn bs v) w w1:=ht1.mono (fun i hi=>.inl (by have : i=g:=(by simpa using hi);rw[this];simp[Zf]));clear ht1 hz1;cases ho:S.tick.off with
 | true =>
  have hp:Hid (S.powE=15):=iD (by simp[DS.powE,ho]);have he:Hid (Call.sync.errno S=15):=iD (by simp[Call.errno,ho]);have hu:Hid (Call.sync.turn S=S.tick):=iD (by simp[Call.turn,ho]);rw[hp.out];replace hd1:=iD hd1;replace htt:=iD htt;clear ho;go_wp2;go_ret;rw[hu.out];exact⟨Xt he.out.symm,Yv.then htt.out (fun i hi=>.inl hi) (Yv.same ⟨bn,bs,v,hd1.out,rfl⟩ (lB _ _))⟩
 | false =>
  have hp:Hid (S.powE=0):=iD (by simp[DS.powE,ho]);have he:Hid (Call.sync.errno S=0):=iD (by simp[Call.errno,ho,Call.err]);have hu:Hid (Call.sync.turn S={ S.tick with sure:=S.tick.now,pend:=[] }):=iD (by simp[Call.turn,ho,Call.err,Call.done]);rw[hp.out];have c0:w1.cell? ⟨g,0,none⟩=some (.map (some bn)):=by rw[hd1.blk.cell];rfl
  have hcl:=iD (Z4q w1 bn _ hd1.now);replace hd1:=iD hd1;replace htt:=iD htt;clear ho;go_wp2_with fail;refine hcl.out.mono ?_;rintro e w2 ⟨rfl,hm2,hb2⟩;have hd2:=hd1.out.below hb2;have z1:=hd2.blk.frozen 1;have z2:=hd2.blk.frozen 2;have c1:w2.cell? ⟨g,1,none⟩=some (.map (some bs)):=by rw[hd2.blk.cell];rfl
  have c2:w2.cell? ⟨g,2,none⟩=some v:=by rw[hd2.blk.cell];rfl
  have hlt:bn ≠ w1.heap.size:=by have:=hd1.out.now.lt;omega
  have hg1:g<w1.heap.size:=hd1.out.blk.lt;obtain⟨gg,hgg⟩:∃ gg,gg=w1.heap.size:=⟨_,rfl⟩;rw[<-hgg] at hlt hg1 hm2 ⊢;replace hd2:=iD hd2;replace hm2:=iD hm2;replace hb2:=iD hb2;replace hlt:=iD hlt;replace hgg:=iD hgg;clear c0;go_wp2;go_ret;rw[hu.out];refine⟨Xt he.out.symm,?_⟩;have ht2:Touch [g] w2 ((w2.setCell ⟨g,1,none⟩ (.map (some gg))).setCell ⟨g,2,none⟩ (.slice none 0 0)):=(Touch.setCell _ (by simp)).trans (Touch.setCell _ (by simp)) (fun i hi=>.inl hi);refine⟨htt.out.trans ((Touch.ofBelow (L:=Zf g bn bs v) hb2.out).trans ht2 (fun i hi=>.inl (by have : i=g:=(by simpa using hi);rw[this];simp[Zf]))) (fun i hi=>.inl hi),Zf g bn gg (.slice none 0 0),⟨bn,gg,.slice none 0 0,⟨(hd2.out.blk.set_ 1 _).set_ 2 _,hd2.out.now.touch ht2 (by simpa using hd2.out.gne bn (by simp)),hm2.out.touch ht2 (by simp;omega),hlt.out,[],Z94 _,rfl,fun i o v h1 _=>by simp at h1⟩,rfl⟩,?_⟩;intro i hi;rcases DiskAt.mem_foot hi with rfl | rfl | rfl | e
  ·simp[Zf]
  ·simp[Zf]
  ·right;rw[hgg.out];exact htt.out.size
  ·cases e
theorem Z2h{a b:Value}{c d:Value}(h1:a=c)(h2:b=d):lW (.tuple #[a,b])=.returned (.tuple #[c,d]):=by rw[h1,h2]
theorem Zi9(g bn bs:Nat)(v:Value)(S:DS)(s:List UInt8)(w:World)(h:DiskAt w g bn bs v S)(hs:s.length<=140737488355328) :
  Calls lA 216 #[.pointer (some ⟨g,0,none⟩),Z1 s] w fun e w'=>e=.returned (.tuple #[Z1 (S.readT s),.int .i64 (S.readE s)])/\w=w':=by
 have hpw:=iD (Z90 g bn bs v S w h);have hnm:=iD (Z0i s w hs);have c0:w.cell? ⟨g,0,none⟩=some (.map (some bn)):=by rw[h.blk.cell];rfl
 cases ho:S.off with
 | true =>
  have hp:Hid (S.powR=15):=iD (by simp[DS.powR,ho]);have he:Hid (S.readE s=15):=iD (by simp[DS.readE,ho]);have hu:Hid (S.readT s=[]):=iD (by simp[DS.readT,ho]);clear h ho;go_enter func216,ntmps216;go_wp2_with fail;refine hpw.out.mono ?_;rintro e w1 ⟨rfl,rfl⟩;rw[hp.out];go_wp2;go_ret2;exact⟨Z2h (by rw[hu.out];rfl) (by rw[he.out];rfl),rfl⟩
 | false =>
  have hp:Hid (S.powR=0):=iD (by simp[DS.powR,ho]);cases hn:Y3 s with
  | false =>
   have he:Hid (S.readE s=11):=iD (by simp[DS.readE,ho,hn]);have hu:Hid (S.readT s=[]):=iD (by simp[DS.readT,ho,hn]);rw[hn] at hnm;clear h ho hn;go_enter func216,ntmps216;go_wp2_with fail;refine hpw.out.mono ?_;rintro e w1 ⟨rfl,rfl⟩;rw[hp.out];go_wp2_with fail;refine hnm.out.mono ?_;rintro e w1 ⟨rfl,rfl⟩;go_wp2;go_ret2;exact⟨Z2h (by rw[hu.out];rfl) (by rw[he.out];rfl),rfl⟩
  | true =>
   have hs80:s.length<=80:=by simp[Y3] at hn;exact hn.2
   have hlook:=h.now.look (Qb hs80);rw[hn] at hnm;cases hh:Zz S.now s with
   | false =>
    have he:Hid (S.readE s=5):=iD (by simp[DS.readE,ho,hn,hh]);have hu:Hid (S.readT s=[]):=iD (by simp[DS.readT,ho,hn,Z1b hh]);rw[hh] at hlook;clear h ho hn hh;go_enter func216,ntmps216;go_wp2_with fail;refine hpw.out.mono ?_;rintro e w1 ⟨rfl,rfl⟩;rw[hp.out];go_wp2_with fail;refine hnm.out.mono ?_;rintro e w1 ⟨rfl,rfl⟩;go_wp2;go_ret2;exact⟨Z2h (by rw[hu.out];rfl) (by rw[he.out];rfl),rfl⟩
   | true =>
    have he:Hid (S.readE s=0):=iD (by simp[DS.readE,ho,hn,hh]);have hu:Hid (S.readT s=fS S.now s):=iD (by simp[DS.readT,ho,hn]);rw[hh] at hlook;clear h ho hn hh;go_enter func216,ntmps216;go_wp2_with fail;refine hpw.out.mono ?_;rintro e w1 ⟨rfl,rfl⟩;rw[hp.out];go_wp2_with fail;refine hnm.out.mono ?_;rintro e w1 ⟨rfl,rfl⟩;go_wp2;go_ret2;exact⟨Z2h (by rw[hu.out];rfl) (by rw[he.out];rfl),rfl⟩
def NewTo(w:World)(room:Int)(e:Ending)(w':World):Prop:=∃ g L,e=.returned (.tuple #[.pointer (some ⟨g,0,none⟩),.int .i64 0])/\J3 w' L g (DS.new room)/\(∀ i ∈ L,w.heap.size<=i)/\Below w.heap.size w w'
theorem Z96(room:Int)(w:World)(h0:0<=room)(h1:room<=16777216):Calls lA 158 #[.int .i64 room] w (NewTo w room):=by
 have hmm:=@run_makeMap lA;go_enter func158,ntmps158;go_wp2;go_ret2;have m1:Zp (w.alloc (lR #[] 0)) w.heap.size K5:=Zp.of (World.ownsMap_made w _ _ _);have m2:Zp ((w.alloc (lR #[] 0)).alloc (lR #[] 0)) (w.heap.size+1) K5:=by
  have:=Zp.of (World.ownsMap_made (w.alloc (lR #[] 0)) lA 9 (plainElem (H:=Unit) lA 9));simpa[K5] using this
 refine⟨w.heap.size+1+1,Zf (w.heap.size+1+1) w.heap.size (w.heap.size+1) (.slice none 0 0),rfl,⟨_,_,_,⟨Blk.new_at (cs:=Vn w.heap.size (w.heap.size+1) (.slice none 0 0) (DS.new room)) (by simp),?_,?_,by omega,[],Z94 _,rfl,fun i o v h1 _=>by simp[DS.new] at h1⟩,rfl⟩,?_,?_⟩
 ·exact (m1.touch (L:=[]) (Touch.alloc _) (by simp)).touch (L:=[]) (Touch.alloc _) (by simp)
 ·exact m2.touch (L:=[]) (Touch.alloc _) (by simp)
 ·intro i hi;rcases DiskAt.mem_foot hi with rfl | rfl | rfl | e
  ·omega
  ·omega
  ·omega
  ·cases e
 ·exact ((bL.alloc (by simp) _).alloc (by simp;omega) _)
end Go.Proofs.YtefjlobdifjogaaGreatDoor
end
section
namespace Go.Proofs.YtefjlobdifjogaaGreatDoor
open Go.RowKit Go.Maps Go.Sort
theorem below_setRow{B:Nat}{w w':World}(h:Below B w w'){g:Nat}(hg:B<=g)(c:Array Value):Below B w (w'.setRow g c) :=
 h.trans ⟨rfl,rfl,rfl,by simp[World.setRow],fun k hk=>setRow_other w' g k c (by omega)⟩
end Go.Proofs.YtefjlobdifjogaaGreatDoor
end
end
section
namespace Go.Proofs.YtefjlobdifjogaaGreatDoor
open Go.Maps
def Qn(D:DM):Prop:=∀ k,Zz D k=true->Y3 k=true
def Z4w(os:List DOp)(D:DM):DM:=os.foldl (fun D o=>o.act 1 D) D
def DOp.named:DOp->Prop
 | .write s _=>Y3 s=true
 | .remove _=>True
 | .rename _ t=>Y3 t=true
structure Inv (S:DS) (n:Nat):Prop extends S.Good where
 keys:Qn S.now
 keys':Qn S.sure
 opn:∀ o ∈ S.pend,o.named
 len:S.pend.length<=n
 re:Z4w S.pend S.sure=S.now
theorem Qn.put{D:DM}(h:Qn D){k t:List UInt8}(hk:Y3 k=true):Qn (Xy D k t):=fun q hq=>by
 by_cases e:q=k
 ·rw[e];exact hk
 ·rw[Z6j e] at hq;exact h q hq
theorem Qn.del{D:DM}(h:Qn D){k:List UInt8}:Qn (K4 D k):=fun q hq=>by
 by_cases e:q=k
 ·rw[e,Zco] at hq;cases hq
 ·rw[Zcp e] at hq;exact h q hq
theorem Qn.act{D:DM}(h:Qn D){o:DOp}(ho:o.named)(k:Int):Qn (o.act k D):=by
 cases o with
 | write s t=>exact h.put ho
 | remove s=>exact h.del
 | rename s t =>
  simp only[DOp.act];split
  ·exact (h.del).put ho
  ·exact h
theorem Fit.tick{S:DS}(h:S.Fit):S.tick.Fit:=by
 refine⟨by rw[Je];exact h.now,by rw[Z2g];exact h.sure,by rw[Un];exact h.ops,by rw[Z0j];exact h.room0,by rw[Z0j];exact h.room1,?_,?_⟩
 ·unfold DS.tick;split
  ·exact h.fuse0
  ·show -1<=max (S.fuse - 1) (-1);omega
 ·unfold DS.tick;split
  ·exact h.fuse1
  ·show max (S.fuse - 1) (-1)<=1000000;have:=h.fuse1;omega
theorem Inv.tick{S:DS}{n:Nat}(h:Inv S n):Inv S.tick n:=by
 refine⟨⟨Fit.tick h.toFit,?_,?_,?_⟩,?_,?_,?_,?_,?_⟩
 ·rw[Je,Z0j];exact h.sum
 ·rw[Je];exact h.few
 ·rw[Z2g];exact h.few'
 ·rw[Je];exact h.keys
 ·rw[Z2g];exact h.keys'
 ·rw[Un];exact h.opn
 ·rw[Un];exact h.len
 ·rw[Un,Z2g,Je];exact h.re
theorem Inv.mono{S:DS}{n m:Nat}(h:Inv S n)(hm:n<=m):Inv S m:=⟨h.toGood,h.keys,h.keys',h.opn,lD h.len hm,h.re⟩
theorem Inv.does{S:DS}{n:Nat}(h:Inv S n)(o:DOp)(ho:o.ok)(hn:o.named)(hs:(Yr (o.act 1 S.now):Int)<=S.room)(hf:Zq (o.act 1 S.now)<=600):Inv (S.does o) (n+1):=by
 refine⟨⟨⟨o.act_str h.now 1,h.sure,?_,h.room0,h.room1,h.fuse0,h.fuse1⟩,hs,hf,h.few'⟩,h.keys.act hn 1,h.keys',?_,?_,?_⟩
 ·intro p hp;rcases l2.1 hp with hp | hp
  ·exact h.ops p hp
  ·rw[lG.1 hp];exact ho
 ·intro p hp;rcases l2.1 hp with hp | hp
  ·exact h.opn p hp
  ·rw[lG.1 hp];exact hn
 ·show (S.pend++[o]).length<=n+1;have:=h.len;simp;omega
 ·show Z4w (S.pend++[o]) S.sure=o.act 1 S.now;have:=h.re;unfold Z4w at this ⊢;rw[List.foldl_append,this];rfl
theorem Z2i{s:List UInt8}(h:Y3 s=true):s.length<=80:=by
 simp[Y3] at h;exact h.2
theorem Inv.done{S:DS}{n:Nat}(h:Inv S n)(c:Call)(hc:c.err S=0):Inv (c.done S) (n+1):=by
 cases c with
 | write s t =>
  simp only[Call.err] at hc;by_cases hs:Y3 s=true
  ·rw[if_pos hs] at hc;by_cases hf:K6 S s t=true
   ·rw[if_pos hf] at hc;cases hc
   ·have hff:K6 S s t=false:=by simpa using hf
    unfold K6 at hff;rw[Bool.or_eq_false_iff] at hff;obtain⟨f1,f2⟩:=hff;have f1':¬ (S.room - (t.length:Int)<(Yr S.now:Int) - ((fS S.now s).length:Int)):=by simpa using f1
    have f2':¬ (600<Zq S.now+(if Zz S.now s then 0 else 1)):=of_decide_eq_false f2;have hcut:U5 t 1=t:=by simp[U5]
    have hx:=Z38 (k:=s) (t:=t) h.now;have hd:=Z1a (k:=s) h.now;have hr:=h.room1;refine h.does _ ⟨Z2i hs,by omega⟩ hs ?_ ?_
    ·show (Yr (Xy S.now s (U5 t 1)):Int)<=S.room;rw[hcut];omega
    ·show Zq (Xy S.now s (U5 t 1))<=600;rw[Z1c h.now];split <;> rename_i hh
     ·exact h.few
     ·rw[if_neg hh] at f2';omega
  ·rw[if_neg hs] at hc;cases hc
 | remove s =>
  simp only[Call.err] at hc;by_cases hs:Y3 s=true
  ·have hd:=Z1a (k:=s) h.now;have hsum:=h.sum;refine h.does _ (Z2i hs) trivial ?_ ?_
   ·show (Yr (K4 S.now s):Int)<=S.room;omega
   ·show Zq (K4 S.now s)<=600;exact lD (Z6k h.now) h.few
  ·rw[if_neg hs] at hc;cases hc
 | rename s t =>
  simp only[Call.err] at hc;by_cases hs:(Y3 s && Y3 t)=true
  ·rw[if_pos hs] at hc;by_cases hh:Zz S.now s=true
   ·rw[l3] at hs;have hd:=Z1a (k:=s) h.now;have hp:=Z38 (k:=t) (t:=fS S.now s) (h.now.del s);have hsum:=h.sum;have ha:(DOp.rename s t).act 1 S.now=Xy (K4 S.now s) t (fS S.now s):=by simp[DOp.act,hh]
    refine h.does _ ⟨Z2i hs.1,Z2i hs.2⟩ hs.2 ?_ ?_
    ·rw[ha];omega
    ·rw[ha];exact lD (Zcs h.now s t hh) h.few
   ·rw[if_neg hh] at hc;cases hc
  ·rw[if_neg hs] at hc;cases hc
 | sync =>
  refine⟨⟨⟨h.now,h.now,by simp[Call.done],h.room0,h.room1,h.fuse0,h.fuse1⟩,h.sum,h.few,h.few⟩,h.keys,h.keys,by simp[Call.done],by simp[Call.done],rfl⟩
theorem Inv.turn{S:DS}{n:Nat}(h:Inv S n)(c:Call):Inv (c.turn S) (n+1):=by
 unfold Call.turn;split
 ·exact h.tick.mono (by omega)
 ·split
  ·rename_i h2;exact h.tick.done c h2
  ·exact h.tick.mono (by omega)
theorem Inv.new{room:Int}(h0:0<=room)(h1:room<=16777216):Inv (DS.new room) 0:=by
 refine⟨⟨⟨Yu.nil,Yu.nil,by simp[DS.new],h0,h1,by simp[DS.new],by simp[DS.new]⟩,?_,?_,?_⟩,?_,?_,by simp[DS.new],by simp[DS.new],rfl⟩
 ·show ((Yr K5:Nat):Int)<=room;simp[Yr,K5,fEs];exact h0
 ·show Zq K5<=600;simp[Zq,K5,lL]
 ·show Zq K5<=600;simp[Zq,K5,lL]
 ·intro k hk;have : Zz K5 k=true:=hk;simp[Zz,K5,lO] at this
 ·intro k hk;have : Zz K5 k=true:=hk;simp[Zz,K5,lO] at this
theorem Inv.asked{S:DS}{n:Nat}(h:Inv S n)(hn:n<4398046511104):Asked S:=⟨h.toGood,lZ h.len hn⟩
end Go.Proofs.YtefjlobdifjogaaGreatDoor
end
section
set_option maxRecDepth 100000
set_option maxHeartbeats 8000000
open Go.Lib renaming hid → iD
open Go.Proofs.Tryz
section
section
namespace Go.Proofs.YtefjlobdifjogaaGreatDoor
open Go.RowKit
def Zi:Str:=[114,101,102,115,46,110,101,119]
def Yj:Str:=[114,101,102,115]
def openS(S:DS):DS:=(Call.remove Zi).turn S
def Gg(S:DS):Int :=
 if (Call.remove Zi).errno S=15 then 15 else if (openS S).readE Yj=5 then 0 else if (openS S).readE Yj=0 then (if Z09 ((openS S).readT Yj)=true then 0 else 7) else (openS S).readE Yj
def Z0k(S:DS):Tab:=if (openS S).readE Yj=0 then Va ((openS S).readT Yj) else []
def Zia(w:World)(L:List Nat)(g:Nat)(S:DS)(e:Ending)(w':World):Prop :=
 Yv w L g (openS S) w'/\if Gg S=0 then ∃ rb tv,e=.returned (.tuple #[.pointer (some ⟨rb,0,none⟩),.int .i64 0])/\w.heap.size<=rb/\Blk w' rb 267 [.pointer (some ⟨g,0,none⟩),tv,.bool false]/\Zu w' w.heap.size tv (Z0k S) else e=.returned (.tuple #[.pointer none,.int .i64 (Gg S)])
theorem Z2j{w w2 w4:World}{L:List Nat}{g bn bs:Nat}{v:Value}{S:DS}(ht:Touch L w w2)(hD:DiskAt w2 g bn bs v S)(hL:∀ i ∈ Zf g bn bs v,i ∈ L ∨ w.heap.size<=i)(hb:Below w2.heap.size w2 w4):Yv w L g S w4 :=
 ⟨ht.trans (L':=[]) (Touch.ofBelow hb) (by simp),_,⟨bn,bs,v,hD.below hb,rfl⟩,hL⟩
theorem Zib(S:DS):(Call.remove Zi).errno S=0 ∨ (Call.remove Zi).errno S=5 ∨ (Call.remove Zi).errno S=15:=by
 have e:(Call.remove Zi).err S.tick=if Zz S.tick.now Zi=true then 0 else 5:=by
  show (if Y3 Zi=true then (if Zz S.tick.now Zi=true then (0:Int) else 5) else 11)=_;rw[if_pos (by decide)]
 unfold Call.errno;rw[e];split
 ·exact .inr (.inr rfl)
 ·split
  ·exact .inl rfl
  ·exact .inr (.inl rfl)
theorem Zic(S:DS):S.readE Yj=0 ∨ S.readE Yj=5 ∨ S.readE Yj=15:=by
 unfold DS.readE;split
 ·exact .inr (.inr rfl)
 ·have : Y3 Yj=true:=by decide
  simp only[this,if_true];split
  ·exact .inl rfl
  ·exact .inr (.inl rfl)
theorem Zid(g bn bs:Nat)(v:Value)(S:DS)(w:World)(h:DiskAt w g bn bs v S)(hA:Asked S)(hpa0:(openS S).readE Yj=0->∀ w,Calls lA 217 #[.string ⟨((openS S).readT Yj).toArray⟩] w (Z8c w ((openS S).readT Yj))) :
  Calls lA 130 #[.pointer (some ⟨g,0,none⟩)] w (Zia w (Zf g bn bs v) g S):=by
 have hrm:Hid (Calls lA 124 #[.pointer (some ⟨g,0,none⟩),.string ⟨#[114,101,102,115,46,110,101,119]⟩] w fun e w'=>e=.returned (.int .i64 ((Call.remove Zi).errno S))/\Yv w (Zf g bn bs v) g (openS S) w'):=iD (Z93 g bn bs v S Zi w h hA (by decide));obtain⟨e1,he1⟩:∃ e1,e1=(Call.remove Zi).errno S:=⟨_,rfl⟩;obtain⟨e2,he2⟩:∃ e2,e2=(openS S).readE Yj:=⟨_,rfl⟩;obtain⟨t,ht⟩:∃ t,t=(openS S).readT Yj:=⟨_,rfl⟩;have c1:=Zib S;have c2:=Zic (openS S);rw[<-he1] at hrm c1;rw[<-he2] at c2;have hrd:Hid (∀ bn2 bs2 v2 w2,DiskAt w2 g bn2 bs2 v2 (openS S)->Calls lA 216 #[.pointer (some ⟨g,0,none⟩),.string ⟨#[114,101,102,115]⟩] w2 fun e w'=>e=.returned (.tuple #[.string ⟨t.toArray⟩,.int .i64 e2])/\w2=w'):=iD (fun bn2 bs2 v2 w2 h2=>by
  rw[ht,he2];exact Zi9 g bn2 bs2 v2 (openS S) Yj w2 h2 (by decide))
 have hpa:Hid (e2=0->∀ w,Calls lA 217 #[.string ⟨t.toArray⟩] w (Z8c w t)):=iD (by rw[he2,ht];exact hpa0);have hE:Hid (Gg S=if e1=15 then 15 else if e2=5 then 0 else if e2=0 then (if Z09 t=true then 0 else 7) else e2):=iD (by unfold Gg;rw[<-he1,<-he2,<-ht]);have hT:Hid (Z0k S=if e2=0 then Va t else []):=iD (by unfold Z0k;rw[<-he2,<-ht]);clear he1 he2 ht h hA hpa0;rcases c1 with rfl | rfl | rfl
 case inr.inr =>
  go_enter func130,ntmps130;go_wp2_with (first
   | (go_at_call 124;(with_reducible refine hrm.out.mono ?_);rintro e w2 ⟨rfl,ht⟩))
  refine lE (lH rfl _ _ _) rfl ?_;refine⟨ht,?_⟩;rw[hE.out];rfl
 all_goals
  rcases c2 with rfl | rfl | rfl
  case inr.inr =>
   go_enter func130,ntmps130;go_wp2_with (first
    | (go_at_call 124;(with_reducible refine hrm.out.mono ?_);rintro e w2 ⟨rfl,ht,L',⟨bn2,bs2,v2,hD2,rfl⟩,hL⟩)
    | (go_at_call 216;(with_reducible refine (hrd.out _ _ _ _ hD2).mono ?_);rintro e w3 ⟨rfl,rfl⟩))
   refine lE (lH rfl _ _ _) rfl ?_;refine⟨Z2j ht hD2 hL (lB _ _),?_⟩;rw[hE.out];rfl
  case inr.inl =>
   go_enter func130,ntmps130;go_wp2_with (first
    | (go_at_call 124;(with_reducible refine hrm.out.mono ?_);rintro e w2 ⟨rfl,ht,L',⟨bn2,bs2,v2,hD2,rfl⟩,hL⟩)
    | (go_at_call 216;(with_reducible refine (hrd.out _ _ _ _ hD2).mono ?_);rintro e w3 ⟨rfl,rfl⟩))
   refine lE (lH rfl _ _ _) rfl ?_;refine⟨Z2j ht hD2 hL bL,?_⟩;rw[hE.out,hT.out];exact⟨_,_,rfl,ht.size,Blk.new_at rfl,Zu.nil⟩
  case inl =>
   by_cases hp:Z09 t=true
   ·have hpa2:Hid (∀ w,Calls lA 217 #[.string ⟨t.toArray⟩] w fun e w'=>∃ v,e=.returned (.tuple #[v,.int .i64 0])/\Zu w' w.heap.size v (Va t)/\Below w.heap.size w w'):=iD (fun w=>(hpa.out rfl w).mono fun e w' hR=>by
     obtain⟨hb,hR⟩:=hR;rw[if_pos hp] at hR;obtain⟨v,h1,h2⟩:=hR;exact⟨v,h1,h2,hb⟩)
    replace hp:=iD hp;clear hpa;go_enter func130,ntmps130;go_wp2_with (first
     | (go_at_call 124;(with_reducible refine hrm.out.mono ?_);rintro e w2 ⟨rfl,ht,L',⟨bn2,bs2,v2,hD2,rfl⟩,hL⟩)
     | (go_at_call 216;(with_reducible refine (hrd.out _ _ _ _ hD2).mono ?_);rintro e w3 ⟨rfl,rfl⟩)
     | (go_at_call 217;(with_reducible refine (hpa2.out _).mono ?_);rintro e w4 ⟨tv,rfl,hO4,hb4⟩;obtain⟨TA,tc,rfl,_⟩:=hO4.form))
    refine lE (lH rfl _ _ _) rfl ?_;have hba:=(lB w4.heap.size w4).alloc (lF _) (.cells #[.pointer (some ⟨g,0,none⟩),.slice TA (Va t).length tc,.bool false] 267);refine⟨Z2j ht hD2 hL (hb4.trans (hba.mono hb4.size)),?_⟩;rw[hE.out,hT.out,hp.out];obtain⟨vs,hvl,hrow,hh⟩:=hO4;have hO5:Zu (w4.alloc (.cells #[.pointer (some ⟨g,0,none⟩),.slice TA (Va t).length tc,.bool false] 267)) w.heap.size (.slice TA (Va t).length tc) (Va t):=(Zu.keepB ⟨vs,hvl,hrow,hh⟩ hba).lower ht.size;exact⟨_,_,rfl,lD ht.size hb4.size,Blk.new_at rfl,hO5⟩
   ·have hpa2:Hid (∀ w,Calls lA 217 #[.string ⟨t.toArray⟩] w fun e w'=>e=.returned (.tuple #[.slice none 0 0,.int .i64 7])/\Below w.heap.size w w'):=iD (fun w=>(hpa.out rfl w).mono fun e w' hR=>by
     obtain⟨hb,hR⟩:=hR;rw[if_neg hp] at hR;exact⟨hR,hb⟩)
    have hp':Z09 t=false:=by simpa using hp
    replace hp':=iD hp';clear hpa hp;go_enter func130,ntmps130;go_wp2_with (first
     | (go_at_call 124;(with_reducible refine hrm.out.mono ?_);rintro e w2 ⟨rfl,ht,L',⟨bn2,bs2,v2,hD2,rfl⟩,hL⟩)
     | (go_at_call 216;(with_reducible refine (hrd.out _ _ _ _ hD2).mono ?_);rintro e w3 ⟨rfl,rfl⟩)
     | (go_at_call 217;(with_reducible refine (hpa2.out _).mono ?_);rintro e w4 ⟨rfl,hb4⟩))
    refine lE (lH rfl _ _ _) rfl ?_;refine⟨Z2j ht hD2 hL hb4,?_⟩;rw[hE.out,hp'.out];rfl
end Go.Proofs.YtefjlobdifjogaaGreatDoor
end
section
namespace Go.Proofs.YtefjlobdifjogaaGreatDoor
open Go.RowKit
def Vd(S:DS):List Call->Int
 | []=>0
 | c :: r=>if c.errno S=0 then Vd (c.turn S) r else c.errno S
def Z2k(S:DS):List Call->DS
 | []=>S
 | c :: r=>if c.errno S=0 then Z2k (c.turn S) r else c.turn S
def Vx(s:Str):List Call:=[.write Zi s,.sync,.rename Zi Yj,.sync]
theorem Zu.touch{w w':World}{L:List Nat}{base:Nat}{v:Value}{T:Tab}(h:Zu w base v T)(ht:Touch L w w')(hn:∀ i ∈ L,∀ t cs,Blk w i t cs->t ≠ 205/\t ≠ 59):Zu w' base v T:=by
 obtain⟨vs,hl,ho,hh⟩:=h;refine⟨vs,hl,Zj ho ht (fun b hb hm=>?_),fun k b u h1 h2=>(hh k b u h1 h2).keep (fun b cs _ hB=>hB.touch ht (fun hm=>(hn b hm _ _ hB).2 rfl))⟩;obtain⟨cs,hB⟩:=Z0b ho b hb;exact (hn b hm _ _ hB).1 rfl
theorem Z97{w:World}{g bn bs:Nat}{pv:Value}{S:DS}(hD:DiskAt w g bn bs pv S):∀ i ∈ Zf g bn bs pv,∀ t cs,Blk w i t cs->t=105 ∨ t=314:=fun i hi t cs hB=>by
 by_cases h1:t=105
 ·exact .inl h1
 ·by_cases h2:t=314
  ·exact .inr h2
  ·exact absurd hi (hD.tag hB h1 h2)
theorem Vy{e:Int}(h:(e == 0)=true):e=0:=by simpa using h
theorem Zie{e:Int}(h:(e != 0)=false):e=0:=by simpa using h
theorem Z2l{e:Int}(h:(e != 0)=true):e ≠ 0:=by simpa using h
structure Mid (w:World) (L:List Nat) (rb g:Nat) (v nv:Value) (base:Nat) (T:Tab) (S:DS) (W:World):Prop where
 touch:Touch L w W
 disk:∃ L',J3 W L' g S/\∀ i ∈ L',i ∈ L ∨ w.heap.size<=i
 ref:Blk W rb 267 [.pointer (some ⟨g,0,none⟩),v,.bool false]
 own:Zu W base nv T
theorem Mid.step{w:World}{L:List Nat}{rb g:Nat}{v nv:Value}{base:Nat}{T:Tab}{S S':DS}{W W':World}(h:Mid w L rb g v nv base T S W){bn bs:Nat}{pv:Value}(hD:DiskAt W g bn bs pv S)(hL:∀ i ∈ Zf g bn bs pv,i ∈ L ∨ w.heap.size<=i)(ht:Yv W (Zf g bn bs pv) g S' W'):Mid w L rb g v nv base T S' W':=by
 obtain⟨ht,L',hD',hL'⟩:=ht;have hf:=Z97 hD;refine⟨h.touch.trans ht hL,⟨L',hD',fun i hi=>?_⟩,h.ref.touch ht (hD.tag h.ref (by decide) (by decide)),h.own.touch ht (fun i hi t cs hB=>?_)⟩
 ·rcases hL' i hi with h1 | h1
  ·exact hL i h1
  ·exact .inr (lD h.touch.size h1)
 ·rcases hf i hi t cs hB with rfl | rfl <;> exact⟨by decide,by decide⟩
def Ve(w:World)(L:List Nat)(rb g:Nat)(v:Value)(T:Tab)(E:Int)(S:DS)(e:Ending)(w':World):Prop :=
 e=.returned (.int .i64 E)/\Touch (rb :: L) w w'/\(∃ L',J3 w' L' g S/\∀ i ∈ L',i ∈ L ∨ w.heap.size<=i) /\
 ∃ nv,Blk w' rb 267 [.pointer (some ⟨g,0,none⟩),nv,.bool (decide (E=15))]/\if E=0 then Zu w' w.heap.size nv T else nv=v
theorem J3.set{W:World}{L':List Nat}{g:Nat}{S:DS}{rb i:Nat}{u:Value}{cs:List Value}(h:J3 W L' g S)(hB:Blk W rb 267 cs):J3 (W.setCell ⟨rb,i,none⟩ u) L' g S:=by
 obtain⟨bn,bs,pv,hD,rfl⟩:=id h;refine h.touch (M:=[rb]) (Touch.setCell u (by simp)) (fun j hj hm=>?_) (fun j hj cs' hB'=>?_)
 ·simp only[lG] at hm;subst hm;exact hD.tag hB (by decide) (by decide) hj
 ·simp only[lG] at hj;subst hj;exact hB'.ne_ hB (by decide) rfl
theorem Zu.set{W:World}{base:Nat}{v:Value}{T:Tab}{rb i:Nat}{u:Value}{cs:List Value}(h:Zu W base v T)(hB:Blk W rb 267 cs):Zu (W.setCell ⟨rb,i,none⟩ u) base v T :=
 h.touch (L:=[rb]) (Touch.setCell u (by simp)) (fun j hj t cs' hB'=>by
  simp only[lG] at hj;subst hj;have:=hB'.unique hB;subst this;exact⟨by decide,by decide⟩)
theorem Ve.bad{w:World}{L:List Nat}{rb g:Nat}{v nv:Value}{base:Nat}{T T':Tab}{S:DS}{W:World}{E:Int}(h:Mid w L rb g v nv base T S W)(hE:E ≠ 0) :
  Ve w L rb g v T' E S (.returned (.int .i64 E)) (W.setCell ⟨rb,2,none⟩ (.bool (decide (E=15)))):=by
 obtain⟨L',hD,hL'⟩:=h.disk;refine⟨rfl,h.touch.mono (fun i hi=>.inl (by simp[hi])) |>.trans (Touch.setCell (L:=[rb]) _ (by simp)) (fun i hi=>.inl (by simp at hi;simp[hi])),⟨L',hD.set h.ref,hL'⟩,v,h.ref.set_ 2 _,?_⟩;rw[if_neg hE]
theorem Ve.good{w:World}{L:List Nat}{rb g:Nat}{v nv:Value}{T:Tab}{S:DS}{W:World}(h:Mid w L rb g v nv w.heap.size T S W) :
  Ve w L rb g v T 0 S (.returned (.int .i64 0)) ((W.setCell ⟨rb,2,none⟩ (.bool false)).setCell ⟨rb,1,none⟩ nv):=by
 obtain⟨L',hD,hL'⟩:=h.disk;have hB2:=h.ref.set_ 2 (.bool false);refine⟨rfl,(h.touch.mono (fun i hi=>.inl (by simp[hi])) |>.trans (Touch.setCell (L:=[rb]) _ (by simp)) (fun i hi=>.inl (by simp at hi;simp[hi]))).trans (Touch.setCell (L:=[rb]) _ (by simp)) (fun i hi=>.inl (by simp at hi;simp[hi])),⟨L',(hD.set h.ref).set hB2,hL'⟩,nv,hB2.set_ 1 _,?_⟩;rw[if_pos rfl];exact (h.own.set h.ref).set hB2
theorem do_by(rb g bn bs:Nat)(pv v u:Value)(S:DS)(T:Tab)(C:List Chg)(ok ok':Nat->Prop)(w:World)(hB:Blk w rb 267 [.pointer (some ⟨g,0,none⟩),v,.bool false])
  (h:TabIs w ok v T) (_hf:TFit T) (h':Yx w ok' u C) (_hc:CFit C) (hE:U7 T C=0) (hC:C ≠ []) (hft:TFit (Ke T C)) (hpl:(Ki (Ke T C)).length<=140737488355328)
  (hD:DiskAt w g bn bs pv S) (hA0:Asked S) (hA1:Asked ((Call.write Zi (Ki (Ke T C))).turn S)) (hA2:Asked (Call.sync.turn ((Call.write Zi (Ki (Ke T C))).turn S)))
  (hA3:Asked ((Call.rename Zi Yj).turn (Call.sync.turn ((Call.write Zi (Ki (Ke T C))).turn S)))) (hap0:Calls lA 190 #[v,u] w (Z45 w T C)) :
  Calls lA 192 #[.pointer (some ⟨rb,0,none⟩),u] w (Ve w (Zf g bn bs pv) rb g v (Ke T C) (Vd S (Vx (Ki (Ke T C)))) (Z2k S (Vx (Ki (Ke T C))))):=by
 have hap:=iD hap0;obtain⟨A,tc,rfl,htc⟩:=h.form;obtain⟨CA,cc,rfl,hcc⟩:=h'.form;unfold Z45 at hap;rw[hE] at hap;obtain⟨N,hN⟩:∃ N,N=Ke T C:=⟨_,rfl⟩;obtain⟨Pt,hPt⟩:∃ Pt,Pt=Ki (Ke T C):=⟨_,rfl⟩;rw[<-hPt] at hpl hA1 hA2 hA3 ⊢;rw[<-hN] at hap hft hPt ⊢;have hpr:Hid (∀ (nv:Value) (W:World),Zu W w.heap.size nv N->Calls lA 260 #[nv] W fun e w'=>e=.returned (.tuple #[.string ⟨Pt.toArray⟩,.int .i64 (Xk N)])/\Below W.heap.size W w'):=iD (fun nv W hO=>by rw[hPt];exact Zef N nv _ W hO.tab hft);obtain⟨m,hm⟩:∃ m,m=Xk N:=⟨_,rfl⟩;rw[<-hm] at hpr;have hCl:0<C.length:=List.length_pos_iff.2 hC;obtain⟨S1,hS1⟩:∃ S1,S1=(Call.write Zi Pt).turn S:=⟨_,rfl⟩;obtain⟨S2,hS2⟩:∃ S2,S2=Call.sync.turn S1:=⟨_,rfl⟩;obtain⟨S3,hS3⟩:∃ S3,S3=(Call.rename Zi Yj).turn S2:=⟨_,rfl⟩;obtain⟨e1,he1⟩:∃ e1,e1=(Call.write Zi Pt).errno S:=⟨_,rfl⟩;obtain⟨e2,he2⟩:∃ e2,e2=Call.sync.errno S1:=⟨_,rfl⟩;obtain⟨e3,he3⟩:∃ e3,e3=(Call.rename Zi Yj).errno S2:=⟨_,rfl⟩;obtain⟨e4,he4⟩:∃ e4,e4=Call.sync.errno S3:=⟨_,rfl⟩;rw[<-hS1] at hA1 hA2 hA3;rw[<-hS2] at hA2 hA3;rw[<-hS3] at hA3;have hwr:Hid (∀ nv W,Mid w (Zf g bn bs pv) rb g (.slice A T.length tc) nv w.heap.size N S W->Calls lA 118 #[.pointer (some ⟨g,0,none⟩),.string ⟨#[114,101,102,115,46,110,101,119]⟩,.string ⟨Pt.toArray⟩] W fun e W'=>e=.returned (.int .i64 e1)/\Mid w (Zf g bn bs pv) rb g (.slice A T.length tc) nv w.heap.size N S1 W'):=iD (fun nv W hm=>by
  obtain⟨L',⟨bn',bs',pv',hD',rfl⟩,hL'⟩:=hm.disk;refine (Z92 g bn' bs' pv' S Zi Pt W hD' hA0 (by decide) hpl).mono ?_;rintro e W' ⟨he,ht⟩;rw[<-hS1] at ht;exact⟨by rw[he,he1],hm.step hD' hL' ht⟩)
 have hs1:Hid (∀ nv W,Mid w (Zf g bn bs pv) rb g (.slice A T.length tc) nv w.heap.size N S1 W->Calls lA 119 #[.pointer (some ⟨g,0,none⟩)] W fun e W'=>e=.returned (.int .i64 e2)/\Mid w (Zf g bn bs pv) rb g (.slice A T.length tc) nv w.heap.size N S2 W'):=iD (fun nv W hm=>by
  obtain⟨L',⟨bn',bs',pv',hD',rfl⟩,hL'⟩:=hm.disk;refine (Z95 g bn' bs' pv' S1 W hD' hA1.toFit).mono ?_;rintro e W' ⟨he,ht⟩;rw[<-hS2] at ht;exact⟨by rw[he,he2],hm.step hD' hL' ht⟩)
 have hrn:Hid (∀ nv W,Mid w (Zf g bn bs pv) rb g (.slice A T.length tc) nv w.heap.size N S2 W->Calls lA 121 #[.pointer (some ⟨g,0,none⟩),.string ⟨#[114,101,102,115,46,110,101,119]⟩,.string ⟨#[114,101,102,115]⟩] W fun e W'=>e=.returned (.int .i64 e3)/\Mid w (Zf g bn bs pv) rb g (.slice A T.length tc) nv w.heap.size N S3 W'):=iD (fun nv W hm=>by
  obtain⟨L',⟨bn',bs',pv',hD',rfl⟩,hL'⟩:=hm.disk;refine (Zi8 g bn' bs' pv' S2 Zi Yj W hD' hA2 (by decide) (by decide)).mono ?_;rintro e W' ⟨he,ht⟩;rw[<-hS3] at ht;exact⟨by rw[he,he3],hm.step hD' hL' ht⟩)
 have hs2:Hid (∀ nv W,Mid w (Zf g bn bs pv) rb g (.slice A T.length tc) nv w.heap.size N S3 W->Calls lA 119 #[.pointer (some ⟨g,0,none⟩)] W fun e W'=>e=.returned (.int .i64 e4)/\Mid w (Zf g bn bs pv) rb g (.slice A T.length tc) nv w.heap.size N (Call.sync.turn S3) W'):=iD (fun nv W hm=>by
  obtain⟨L',⟨bn',bs',pv',hD',rfl⟩,hL'⟩:=hm.disk;refine (Z95 g bn' bs' pv' S3 W hD' hA3.toFit).mono ?_;rintro e W' ⟨he,ht⟩;exact⟨by rw[he,he4],hm.step hD' hL' ht⟩)
 have hcE:Hid (Vd S (Vx Pt)=if e1=0 then (if e2=0 then (if e3=0 then (if e4=0 then 0 else e4) else e3) else e2) else e1):=iD (by simp only[Vx,Vd,<-hS1,<-he1,<-hS2,<-he2,<-hS3,<-he3,<-he4]);have hcS:Hid (Z2k S (Vx Pt)=if e1=0 then (if e2=0 then (if e3=0 then (if e4=0 then Call.sync.turn S3 else Call.sync.turn S3) else S3) else S2) else S1):=iD (by simp only[Vx,Z2k,<-hS1,<-he1,<-hS2,<-he2,<-hS3,<-he3,<-he4]);have hmid:Hid (∀ nv W,Zu W w.heap.size nv N->Below w.heap.size w W->Mid w (Zf g bn bs pv) rb g (.slice A T.length tc) nv w.heap.size N S W):=iD (fun nv W hO hb=>⟨Touch.ofBelow hb,⟨_,⟨bn,bs,pv,hD.below hb,rfl⟩,fun i hi=>.inl hi⟩,hB.below hb hB.lt,hO⟩);have h0:=hB.cell 0;have h1:=hB.cell 1;have h2:=hB.cell 2;have iC:((C.length:Int) == 0)=false:=by rw[beq_eq_false_iff_ne];omega
 clear h h' hS1 hS2 hS3 he1 he2 he3 he4 hm hPt hN hE hD hA0 hA1 hA2 hA3 hC;go_enter func192,ntmps192;go_wp2_with (first
  | (go_at_call 190;(with_reducible refine hap.out.mono ?_);rintro e w2 ⟨nv,rfl,hO2,hb2⟩;obtain⟨NA,nc,rfl,_⟩:=hO2.form;replace hO2:=iD hO2)
  | (go_at_call 260;(with_reducible refine (hpr.out _ _ hO2.out).mono ?_);rintro e w3 ⟨rfl,hb3⟩;have hm0:=hmid.out _ w3 (hO2.out.keepB hb3) (hb2.trans (hb3.mono hb2.size));have r0:=hm0.ref.cell 0)
  | (go_at_call 118;(with_reducible refine (hwr.out _ _ hm0).mono ?_);rintro e w4 ⟨rfl,hm1⟩;have r0:=hm1.ref.cell 0;have r2:=hm1.ref.cell 2;have f2:=hm1.ref.frozen 2)
  | (go_at_call 119;(with_reducible refine (hs2.out _ _ hm3).mono ?_);rintro e w7 ⟨rfl,hm4⟩;have r0:=hm4.ref.cell 0;have r2:=hm4.ref.cell 2;have f2:=hm4.ref.frozen 2;have r1:=hm4.ref.cell 1;have f1:=hm4.ref.frozen 1)
  | (go_at_call 119;(with_reducible refine (hs1.out _ _ hm1).mono ?_);rintro e w5 ⟨rfl,hm2⟩;have r0:=hm2.ref.cell 0;have r2:=hm2.ref.cell 2;have f2:=hm2.ref.frozen 2)
  | (go_at_call 121;(with_reducible refine (hrn.out _ _ hm2).mono ?_);rintro e w6 ⟨rfl,hm3⟩;have r0:=hm3.ref.cell 0;have r2:=hm3.ref.cell 2;have f2:=hm3.ref.frozen 2))
 ·have z1:e1=0:=Vy (by assumption);have z2:e2=0:=Vy (by assumption);have z3:e3=0:=Vy (by assumption);have z4:e4 ≠ 0:=Z2l (by assumption);go_ret;rw[hcE.out,hcS.out,if_pos z1,if_pos z2,if_pos z3,if_neg z4,if_pos z1,if_pos z2,if_pos z3,if_neg z4];exact Ve.bad hm4 z4
 ·have z1:e1=0:=Vy (by assumption);have z2:e2=0:=Vy (by assumption);have z3:e3=0:=Vy (by assumption);have z4:e4=0:=Zie (by assumption);subst z4;go_ret;rw[hcE.out,hcS.out,if_pos z1,if_pos z2,if_pos z3,if_pos rfl,if_pos z1,if_pos z2,if_pos z3,if_pos rfl];exact Ve.good hm4
 ·have z1:e1=0:=Vy (by assumption);have z2:e2=0:=Vy (by assumption);have z4:e3 ≠ 0:=Z2l (by assumption);go_ret;rw[hcE.out,hcS.out,if_pos z1,if_pos z2,if_neg z4,if_pos z1,if_pos z2,if_neg z4];exact Ve.bad hm3 z4
 ·have z1:e1=0:=Vy (by assumption);have z4:e2 ≠ 0:=Z2l (by assumption);go_ret;rw[hcE.out,hcS.out,if_pos z1,if_neg z4,if_pos z1,if_neg z4];exact Ve.bad hm2 z4
 ·have z4:e1 ≠ 0:=Z2l (by assumption);go_ret;rw[hcE.out,hcS.out,if_neg z4,if_neg z4];exact Ve.bad hm1 z4
end Go.Proofs.YtefjlobdifjogaaGreatDoor
end
end
section
section
namespace Go.Proofs.YtefjlobdifjogaaGreatDoor
structure Holds (D:DM) (X:Option Str):Prop where
 map:Yu D
 next:Zz D Zi=false
 file:Zz D Yj=X.isSome
 text:fS D Yj=X.getD []
 len:Zq D=if X.isSome then 1 else 0
 sum:Yr D=(X.getD []).length
structure Live (S:DS) (X:Option Str):Prop where
 inv:Inv S 0
 off:S.off=false
 fuse:S.fuse = -1
 sure:S.sure=S.now
 holds:Holds S.now X
section
variable {S:DS} {X:Option Str}
theorem Live.pend(h:Live S X):S.pend=[]:=l4 (Nat.le_zero.1 h.inv.len)
theorem Z2m{S:DS}(ho:S.off=false)(hf:S.fuse = -1):S.tick=S:=by
 obtain⟨a,b,c,d,e,f⟩:=S;simp only at ho hf;subst ho;subst hf;rfl
theorem Live.new{room:Int}(h0:0<=room)(h1:room<=16777216):Live (DS.new room) none :=
 ⟨Inv.new h0 h1,rfl,rfl,rfl,⟨Yu.nil,rfl,rfl,rfl,rfl,rfl⟩⟩
theorem Live.openS(h:Live S X):Proofs.YtefjlobdifjogaaGreatDoor.openS S=S:=by
 have e:(Call.remove Zi).err S=5:=by
  show (if Y3 Zi=true then (if Zz S.now Zi=true then (0:Int) else 5) else 11)=5;rw[if_pos (by decide),h.holds.next];rfl
 unfold Proofs.YtefjlobdifjogaaGreatDoor.openS Call.turn;rw[Z2m h.off h.fuse,h.off,e];rfl
theorem Live.readE(h:Live S X):S.readE Yj=if X.isSome then 0 else 5:=by
 unfold DS.readE;rw[h.off,h.holds.file];rw[show Y3 Yj=true by decide];simp
theorem Live.removeE(h:Live S X):(Call.remove Zi).errno S=5:=by
 have e:(Call.remove Zi).err S=5:=by
  show (if Y3 Zi=true then (if Zz S.now Zi=true then (0:Int) else 5) else 11)=5;rw[if_pos (by decide),h.holds.next];rfl
 unfold Call.errno;rw[Z2m h.off h.fuse,h.off,e];rfl
theorem Live.openE_none(h:Live S none):Gg S=0/\Z0k S=[]:=by
 unfold Gg Z0k;rw[h.openS,h.removeE,h.readE];exact⟨rfl,rfl⟩
theorem Gh{S:DS}(c:Call)(ho:S.off=false)(hf:S.fuse = -1):c.errno S=c.err S:=by
 unfold Call.errno;rw[Z2m ho hf,ho];rfl
theorem Z0l{S:DS}(c:Call)(ho:S.off=false)(hf:S.fuse = -1):c.turn S=if c.err S=0 then c.done S else S:=by
 unfold Call.turn;rw[Z2m ho hf,ho];rfl
theorem nf:Yj ≠ Zi:=by decide
end
end Go.Proofs.YtefjlobdifjogaaGreatDoor
end
section
namespace Go.Proofs.YtefjlobdifjogaaGreatDoor
end Go.Proofs.YtefjlobdifjogaaGreatDoor
end
section
namespace Go.Proofs.YtefjlobdifjogaaGreatDoor
open Go.RowKit
def Oc(W W':World):Prop:=∀ k t cs,Blk W k t cs->t ≠ 267->t ≠ 105->t ≠ 314->Blk W' k t cs
theorem Oc.touch{W W':World}{g bn bs:Nat}{pv:Value}{S:DS}(hD:DiskAt W g bn bs pv S)(ht:Touch (Zf g bn bs pv) W W'):Oc W W':=fun _ _ _ hB _ b c=>hB.touch ht (hD.tag hB b c)
structure Stay (base:Nat->Prop) (w w':World):Prop where
 os:w'.os=w.os
 tape:w'.tape=w.tape
 output:w'.output=w.output
 size:w.heap.size<=w'.heap.size
 block:∀ k,k<w.heap.size->¬ base k->w'.heap[k]?=w.heap[k]?
theorem Stay.refl(base:Nat->Prop)(w:World):Stay base w w:=⟨rfl,rfl,rfl,lF _,fun _ _ _=>rfl⟩
theorem Stay.trans{base:Nat->Prop}{a b c:World}(h:Stay base a b)(k:Stay base b c):Stay base a c :=
 ⟨k.os.trans h.os,k.tape.trans h.tape,k.output.trans h.output,lD h.size k.size,fun i hi hn=>(k.block i (l0 hi h.size) hn).trans (h.block i hi hn)⟩
theorem Touch.stay{base:Nat->Prop}{L:List Nat}{w w':World}(h:Touch L w w')(hL:∀ i ∈ L,base i):Stay base w w':=⟨h.os,h.tape,h.output,h.size,fun k hk hn=>h.block k hk (fun hm=>hn (hL k hm))⟩
theorem Z2n{base:Nat->Prop}{w w':World}{B:Nat}(h:Below B w w')(hB:∀ i,B<=i->i<w.heap.size->base i):Stay base w w':=⟨h.os,h.tape,h.output,h.size,fun k hk hn=>h.block k (Nat.lt_of_not_le fun hl=>hn (hB k hl hk))⟩
theorem Stay.below{B:Nat}{w w':World}(h:Stay (B<=·) w w')(hB:B<=w.heap.size):Below B w w':=⟨h.os,h.tape,h.output,h.size,fun k hk=>h.block k (by omega) (by omega)⟩
structure Ses (w0:World) (base:Nat->Prop) (g:Nat) (S:DS) (W:World):Prop where
 bel:Stay base w0 W
 size:∀ i,W.heap.size<=i->base i
 disk:∃ L,J3 W L g S/\∀ i ∈ L,base i
structure Ref (w0:World) (base:Nat->Prop) (rb g:Nat) (v:Value) (S:DS) (T:Tab) (W:World):Prop extends Ses w0 base g S W where
 low:base rb
 ref:Blk W rb 267 [.pointer (some ⟨g,0,none⟩),v,.bool false]
 own:Zu W 0 v T
theorem Ses.below{w0:World}{base:Nat->Prop}{g:Nat}{S:DS}{W W':World}(h:Ses w0 base g S W)(hb:Below W.heap.size W W'):Ses w0 base g S W':=by
 obtain⟨L,hD,hL⟩:=h.disk;exact⟨h.bel.trans (Z2n hb (fun i h1 h2=>absurd h2 (by omega))),fun i hi=>h.size i (lD hb.size hi),L,hD.below hb,hL⟩
theorem Ref.below{w0:World}{base:Nat->Prop}{rb g:Nat}{v:Value}{S:DS}{T:Tab}{W W':World}(h:Ref w0 base rb g v S T W)(hb:Below W.heap.size W W'):Ref w0 base rb g v S T W' :=
 ⟨h.toSes.below hb,h.low,h.ref.below hb h.ref.lt,h.own.keepB hb⟩
theorem Ses.turned{w0:World}{base:Nat->Prop}{g:Nat}{S S':DS}{W W':World}{L:List Nat}(h:Ses w0 base g S W)(hL:∀ i ∈ L,base i)(ht:Yv W L g S' W'):Ses w0 base g S' W':=by
 obtain⟨ht,L',hD,hL'⟩:=ht;refine⟨h.bel.trans (ht.stay hL),fun i hi=>h.size i (lD ht.size hi),L',hD,fun i hi=>?_⟩;rcases hL' i hi with h1 | h1
 ·exact hL i h1
 ·exact h.size _ h1
theorem Zif{T:Tab}(hm:Xk T=0)(hh:tOk T):(Jv T).length<=65536:=by
 have h1:=(Z3b T).1 hm;have:=Z1z h1.2.1 hh;have:=h1.1;omega
theorem Zig{w0:World}{base:Nat->Prop}{g:Nat}{S:DS}{W:World}(h:Ses w0 base g S W)(hS:Live S none) :
  Calls lA 130 #[.pointer (some ⟨g,0,none⟩)] W fun e W'=>∃ rb v,e=.returned (.tuple #[.pointer (some ⟨rb,0,none⟩),.int .i64 0])/\Ref w0 base rb g v S [] W'/\Oc W W':=by
 obtain⟨L,⟨bn,bs,pv,hD,rfl⟩,hL⟩:=h.disk;have hE:=hS.openE_none;refine (Zid g bn bs pv S W hD (hS.inv.asked (by omega)) (fun he=>?_)).mono ?_
 ·rw[hS.openS,hS.readE] at he;cases he
 ·rintro e W' ⟨ht,hR⟩;rw[hE.1,if_pos rfl,hE.2] at hR;rw[hS.openS] at ht;obtain⟨rb,tv,he,hlo,hB,hO⟩:=hR;exact⟨rb,tv,he,⟨h.turned hL ht,h.size _ hlo,hB,hO.lower (Nat.zero_le _)⟩,Oc.touch hD ht.1⟩
end Go.Proofs.YtefjlobdifjogaaGreatDoor
end
section
namespace Go.Proofs.YtefjlobdifjogaaGreatDoor
theorem Zih{l:List Str}(h:Yp l=0):l.length<=8:=by
 unfold Yp at h;split at h
 ·cases h
 ·omega
theorem Z98{s:Str}(h:Z6 s=true):s.length<=24:=by
 simp only[Z6,l3,decide_eq_true_eq] at h;exact h.2
theorem Zii{T:Tab}(hm:Xk T=0)(hh:tOk T):TFit T:=by
 have h:=(Z3b T).1 hm;refine⟨by have:=h.1;omega,fun b hb=>?_⟩;have hb2:=h.2.1 b hb;have h1:=Z98 hb2.1;have h2:=Zih hb2.2.2;exact⟨by omega,⟨by omega,hh b hb⟩⟩
end Go.Proofs.YtefjlobdifjogaaGreatDoor
end
section
namespace Go.Proofs.YtefjlobdifjogaaGreatDoor
open Go.RowKit
theorem Ref.turned{w0:World}{base:Nat->Prop}{rb g:Nat}{v:Value}{S S':DS}{T:Tab}{W W':World}{bn bs:Nat}{pv:Value}(h:Ref w0 base rb g v S T W)(hD:DiskAt W g bn bs pv S)(hL:∀ i ∈ Zf g bn bs pv,base i)(ht:Yv W (Zf g bn bs pv) g S' W'):Ref w0 base rb g v S' T W':=by
 have hf:=Z97 hD;refine⟨h.toSes.turned hL ht,h.low,h.ref.touch ht.1 (hD.tag h.ref (by decide) (by decide)),h.own.touch ht.1 (fun i hi t cs hB=>?_)⟩;rcases hf i hi t cs hB with rfl | rfl <;> exact⟨by decide,by decide⟩
end Go.Proofs.YtefjlobdifjogaaGreatDoor
end
end
section
section
namespace Go.Proofs.YtefjlobdifjogaaGreatDoor
open Go.RowKit
theorem Z99(rb:Nat)(d br v:Value)(T:Tab)(ok:Nat->Prop)(w:World)(hB:Blk w rb 267 [d,v,br])(h:TabIs w ok v T)(hf:TFit T) :
  Calls lA 107 #[.pointer (some ⟨rb,0,none⟩)] w (O5 w T):=by
 obtain⟨A,c,rfl,hc⟩:=h.form;have ho:=iD (Z7w T _ ok w h hf);have h1:=hB.cell 1;clear h;go_enter func107,ntmps107;go_wp2_with (first
  | (go_at_call 188;(with_reducible refine ho.out.mono ?_);rintro e w2 ⟨u,rfl,hu,hb⟩))
 go_ret;exact⟨_,rfl,hu,hb⟩
def GetTo(w:World)(l:List Str)(e:Ending)(w':World):Prop:=∃ u,e=.returned (.tuple #[u,.bool (decide (l ≠ []))])/\Ze w' (Jx w' w.heap.size) u l/\Below w.heap.size w w'
theorem Zij(rb:Nat)(d br v:Value)(T:Tab)(n:Str)(ok:Nat->Prop)(w:World)(hB:Blk w rb 267 [d,v,br])(h:TabIs w ok v T)(hf:TFit T)(hs:J4 T) :
  Calls lA 91 #[.pointer (some ⟨rb,0,none⟩),Z1 n] w (GetTo w (Yb T n)):=by
 obtain⟨u,hu,hst⟩:=Z41 T v n ok w h hf.len hs;have hst:=iD (hst w (lB _ _));have hcl:=iD (fun W (hb:Below w.heap.size w W)=>Z43 (Yb T n) u ok W (hu.stayB hb) (Z21 hf n));obtain⟨A,c,rfl,hc⟩:=h.form;obtain⟨UA,uc,rfl,huc,_⟩:=id hu;have h1:=hB.cell 1;obtain⟨l,hl⟩:∃ l,l=Yb T n:=⟨_,rfl⟩;rw[<-hl] at hst hcl ⊢;unfold Z1 at hst ⊢;clear hu h hl;go_enter func91,ntmps91;go_wp2_with (first
  | (go_at_call 171;(with_reducible refine hst.out.mono ?_);rintro e w2 ⟨rfl,hb2⟩)
  | (go_at_call 100;(with_reducible refine (hcl.out _ hb2).mono ?_);rintro e w3 ⟨x,rfl,hx,hb3⟩;obtain⟨XA,xc,rfl,_,_⟩:=id hx))
 refine lE (lH rfl _ _ _) rfl ?_;refine⟨_,?_,hx.lower hb2.size,hb2.trans (hb3.mono hb2.size)⟩;have : decide (0<l.length)=decide (l ≠ []):=by cases l <;> simp
 rw[<-this];rfl
end Go.Proofs.YtefjlobdifjogaaGreatDoor
end
section
namespace Go.Proofs.YtefjlobdifjogaaGreatDoor
open Go.RowKit
def d7:Str:=7 :: List.replicate 31 0
def Z4x:Str:=[109,97,105,110]
def c0:Chg:=⟨Z4x,[],[d7]⟩
def T1:Tab:=[⟨Z4x,[d7]⟩]
theorem a1:U7 [] [c0]=0:=by decide
theorem a2:Ke [] [c0]=T1:=by unfold Ke;rw[if_pos a1];rfl
theorem a3:U7 T1 [c0]=12:=by decide
theorem a4:Yb T1 Z4x=[d7]:=by decide
theorem hd7{W:World}{hb:Nat}(hH:Blk W hb 59 (d7.map B)):Ze W (fun _=>True) (.slice (some ⟨hb,0,none⟩) 1 1) [d7] :=
 ⟨_,1,rfl,lF _,Rd.of_blk (r:=[]) hH (by simp[Zv]) trivial⟩
end Go.Proofs.YtefjlobdifjogaaGreatDoor
end
section
namespace Go.Proofs.YtefjlobdifjogaaGreatDoor
open Go.RowKit
end Go.Proofs.YtefjlobdifjogaaGreatDoor
end
section
namespace Go.Proofs.YtefjlobdifjogaaGreatDoor
open Go.RowKit
end Go.Proofs.YtefjlobdifjogaaGreatDoor
end
end
end
section
set_option maxHeartbeats 1000000
open Go.Proofs.Tryz
namespace Go.Proofs.YtefjlobdifjogaaGreatDoor
open Go.RowKit Go.Maps Go.Sort Go.Shelf
theorem Ziv(m:Nat):AnyZ.SortsIn lA Tryz.sorted29_ren lM m :=
  ⟨fun blk off cap ss W hH hblk hsz=>callsIn_wide.2 (AnyM.slices_Sort_string Tryz.sort38 blk off cap ss W hH hblk hsz),
   fun p cap W=>callsIn_wide.2 (AnyM.slices_Sort_string_none Tryz.sort38 p cap W)⟩
theorem Ziw(mb:Option Nat)(W:World):Calls lA 264 #[.map mb] W fun e w' =>
  e=.returned (.func (.func 314) #[] #[.pointer (some ⟨W.heap.size,0,none⟩)])/\w'=W.alloc (.cells #[.map mb] 102) :=
 callsIn_wide.1 (AnyZ.keys_in Tryz.keys30 lM 5 trivial rfl mb W)
theorem Zix(w:World)(b:Nat)(D:DM)(h:Zp w b D)(hD:Zq D<=4398046511104) :
  Calls lA 263 #[.func (.func 314) #[] #[.pointer (some ⟨w.heap.size,0,none⟩)]] (w.alloc (.cells #[.map (some b)] 102)) fun e w' =>
   ∃ v,e=.returned v/\w'.ownsRow w.heap.size 9 1 v (Vl D).length ((Vl D).map Z1)/\Below w.heap.size w w':=by
 have hbl:=h.lt;have hseq:SeqGives lM 2 lA 314 #[.pointer (some ⟨w.heap.size,0,none⟩)] encStr (fun ss=>ss.Perm (strKeys D)) (lL D) (w.alloc (.cells #[.map (some b)] 102)) :=
  AnyZ.keys_gives (ρ:=Tryz.keys30_ren) { Tryz.keys30 with } lM _ trivial rfl (by omega) w.heap.size b (Zq D) D _ (by simp) (by simp) (by
   obtain⟨es,clock,hb,Ft,hs,hD⟩:=h;exact⟨es,clock,(Below.heap_alloc _ _ b hbl).trans hb,Ft,hs,hD⟩)
 have hs:lL D=Zq D:=rfl;have hc:=AnyZ.sorted_in Tryz.sorted29 lM 5 trivial trivial trivial trivial rfl (by omega) (Ziv _) (lK func313 (by kernel_rfl) rfl) 314 #[.pointer (some ⟨w.heap.size,0,none⟩)] trivial
  (lK func314 (by kernel_rfl) rfl) _ _ (by rw[hs];unfold maxLen;omega) (by rw[hs];omega) _ hseq
 refine (callsIn_wide.1 hc).mono ?_;rintro e w' ⟨v,ss,he,hp,hrow,_,hb⟩;have e1:ss.mergeSort leB=Vl D:=mergeSort_of_perm hp;have e2:ss.length=(Vl D).length:=by rw[hp.length_eq,(Z6l D).length_eq]
 refine⟨v,he,?_,((lB _ w).alloc (lF _) _).trans (hb.mono (by simp))⟩;have hrow':w'.ownsRow (w.alloc (.cells #[.map (some b)] 102)).heap.size 9 1 v ss.length ((ss.mergeSort leB).map encStr):=hrow;rw[e1,e2] at hrow';obtain⟨h1,h2⟩:=hrow';refine⟨h1,?_⟩;rcases h2 with h2 | ⟨g,cap,cur,hv,hg,r⟩
 ·exact .inl h2
 ·exact .inr ⟨g,cap,cur,hv,by simp at hg;omega,r⟩
theorem Ziy(w:World)(v:Value)(n:Nat)(vs:List Value)(h:w.ownsRow 0 314 1 v n vs)(h1:∀ u ∈ vs,u.oneCell'=true)(hn:n<=4398046511104) :
  Calls lA 215 #[v] w fun e w'=>∃ v',e=.returned v'/\w'.ownsRow w.heap.size 314 1 v' n vs/\Below w.heap.size w w':=by
 rcases h.2 with ⟨rfl,rfl⟩ | ⟨g,cap,cur,rfl,hb,hg,hc1,hc2,hc3,hc4⟩
 ·have hv:vs=[]:=l4 (by simpa using h.1);subst hv;have hc:=AnyE.slices_Clone_nil Tryz.cloneS 0 0 w
  change Calls lA 215 _ _ _ at hc
  exact hc.mono fun e w' ⟨he,hw⟩=>⟨_,he,⟨rfl,.inl ⟨rfl,rfl⟩⟩,by rw[hw];exact lB _ _⟩
 ·cases hq:lA.info? 314 with
  | none=>have:=Z4r;simp[hq] at this
  | some i =>
   have hii:=Z4r;simp only[hq,Option.map_some,Option.some.injEq,Prod.mk.injEq] at hii;obtain⟨hz,hsize,hby⟩:=hii;have hc:=AnyE.slices_Clone Tryz.cloneS i (.agg #[.nilFunc]) 1 8 hq hz hsize hby (by simp[l1]) (by omega) sizeOf314 g 0 n cap vs w (by simpa using h.1) (by unfold maxLen;omega) (by omega)
    (fun j u hu=>by have:=h.cells (g:=g) rfl j u hu;rw[Jk] at this;exact this) h1
   change Calls lA 215 _ _ _ at hc
   exact hc.mono fun e w' ⟨v',he,ho,_,hb⟩=>⟨v',he,ho,hb⟩
end Go.Proofs.YtefjlobdifjogaaGreatDoor
end
section
set_option maxHeartbeats 1000000
open Go.Lib renaming hid → iD
open Go.Proofs.Tryz
namespace Go.Proofs.YtefjlobdifjogaaGreatDoor
open Go.RowKit Go.Maps Go.Sort
theorem Ziz(g bn bs:Nat)(v:Value)(S:DS)(w:World)(h:DiskAt w g bn bs v S)(ho:S.off=false)(hl:Zq S.now<=4398046511104) :
  Calls lA 201 #[.pointer (some ⟨g,0,none⟩)] w fun e w'=>∃ v,e=.returned v/\w'.ownsRow w.heap.size 9 1 v (Vl S.now).length ((Vl S.now).map Z1)/\Below w.heap.size w w':=by
 have hpw:=iD (Z90 g bn bs v S w h);have hp:Hid (S.powR=0):=iD (by simp[DS.powR,ho]);have c0:w.cell? ⟨g,0,none⟩=some (.map (some bn)):=by rw[h.blk.cell];rfl
 have hk:=iD (Ziw (some bn) w);have hs:=iD (Zix w bn S.now h.now hl);clear h ho hl;go_enter func201,ntmps201;go_wp2_with fail;refine hpw.out.mono ?_;rintro e w1 ⟨rfl,rfl⟩;rw[hp.out];go_wp2_with fail;refine hk.out.mono ?_;rintro e w1 ⟨rfl,rfl⟩;go_wp2_with fail;refine hs.out.mono ?_;rintro e w1 ⟨v',rfl,hrow,hb⟩;replace hrow:=iD hrow;replace hb:=iD hb;go_wp2;go_ret;exact⟨_,rfl,hrow.out,hb.out⟩
end Go.Proofs.YtefjlobdifjogaaGreatDoor
end
