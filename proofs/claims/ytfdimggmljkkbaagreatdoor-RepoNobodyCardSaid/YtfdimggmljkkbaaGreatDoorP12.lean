import Derived.Shelf.SlIter.Nil
import Derived.Shelf.SortM.Plain
import Derived.Shelf.SortM.SortNone
import Derived.Ground.GgzProg
import Derived.Ground.SlgmProg
import Derived.Shelf.SlMaps.Clone
import Derived.Ground.SlmcProg
import Derived.Shelf.SlicesE.Clone
import Derived.Ground.SlgnProg
import Derived.Test.YtfdimggmljkkbaaGreatDoorP07
open Go renaming wpQuiet_nil → lC, bodyPost_ret → lE, results_tmp2 → lG, results_none → lJ, bodyPost_end → lP, wpList_mapUpdate_own → lT
open Go.Ending renaming returned → lW
open Go.Fence renaming wide → lM
open Go.Instr renaming lookup → lV
open Go.IntWalk renaming i64_in → lQ
open Go.Maps renaming size → lL, has → lO, keyOf_str → lY
open Go.Obj renaming map → lR
open Go.Proofs renaming enters_of → lK
open Go.Proofs.Tryz renaming prog → lA
open Go.RowKit.Below renaming refl → lB
open Go.Shelf renaming Ren → lH
open Go.Value renaming ownBlock → lN, func → lU, cells → l0
open List renaming mem_singleton → lF, mem_cons → lS, any_eq_true → lX, mem_append → l1, eq_nil_of_length_eq_zero → l2
open Nat renaming le_trans → lD, le_refl → lI, lt_of_lt_of_le → lZ
section
open Go.Proofs.Tryz
namespace Go.Proofs
open Go.Shelf
def Tryz.cloneM_ren:lH:=⟨fun | 5=>121 | 7=>187 | n=>n,fun | 23=>61 | 25=>9 | 3=>9 | 4=>4 | 20=>20 | n=>n,fun | n=>n⟩
theorem Tryz.cloneM:Go.Proofs.SlLaysW.n5 lA Tryz.cloneM_ren:={
 mixed:=by kernel_rfl
 f5:=⟨Tryz.f121.name,by decide,func121.trans (congrArg some (by kernel_rfl))⟩
 f7:=func187.trans (congrArg some (by kernel_rfl))
 t4:=underlying4
 a4:=isAgg4
 z4:=sizeOf4
 v4:=zeroValue4
 t20:=underlying20
 a20:=isAgg20
 z20:=sizeOf20
 v20:=zeroValue20
 t23:=underlying61
 a23:=isAgg61
 z23:=sizeOf61
 v23:=zeroValue61 }
def Tryz.cloneS_ren:lH:=⟨fun | 41=>140 | n=>n,fun | 22=>62 | 23=>224 | 4=>4 | n=>n,fun | n=>n⟩
theorem Tryz.cloneS:Go.Proofs.SlLaysE0.n41 lA Tryz.cloneS_ren:={
 mixed:=by kernel_rfl
 f41:=⟨Tryz.f140.name,by decide,func140.trans (congrArg some (by kernel_rfl))⟩
 t4:=underlying4
 a4:=isAgg4
 z4:=sizeOf4
 v4:=zeroValue4
 t22:=underlying62
 a22:=isAgg62
 z22:=sizeOf62
 v22:=zeroValue62 }
def Tryz.keys30_ren:lH:=⟨fun | 7=>190 | 10=>235 | n=>n,fun | 23=>61 | 26=>9 | 3=>9 | 28=>292 | 0=>0 | 27=>291 | 33=>77 | 4=>4 | n=>n,fun | n=>n⟩
theorem Tryz.keys30:Go.Proofs.SlLaysZ.n7 lA Tryz.keys30_ren:={
 mixed:=by kernel_rfl
 f7:=⟨Tryz.f190.name,by decide,func190.trans (congrArg some (by kernel_rfl))⟩
 f10:=⟨Tryz.f235.name,by decide,func235.trans (congrArg some (by kernel_rfl))⟩
 t0:=underlying0
 a0:=isAgg0
 z0:=sizeOf0
 v0:=zeroValue0
 t4:=underlying4
 a4:=isAgg4
 z4:=sizeOf4
 v4:=zeroValue4
 t23:=underlying61
 a23:=isAgg61
 z23:=sizeOf61
 v23:=zeroValue61
 t26:=underlying9
 a26:=isAgg9
 z26:=sizeOf9
 v26:=zeroValue9
 t27:=underlying291
 a27:=isAgg291
 z27:=sizeOf291
 v27:=zeroValue291
 t28:=underlying292
 a28:=isAgg292
 z28:=sizeOf292
 v28:=zeroValue292
 t33:=underlying77
 a33:=isAgg77
 z33:=sizeOf77
 v33:=zeroValue77 }
def Tryz.sorted29_ren:lH:=⟨fun | 6=>189 | 8=>233 | 9=>234 | 11=>264 | 13=>204 | 12=>265 | 23=>255 | 24=>256 | 14=>287 | 15=>288 | 16=>289 | 17=>290 | 18=>291 | 19=>292 | 20=>293 | 21=>294 | 22=>295 | 25=>304 | 26=>280 | 27=>281 | 28=>305 | 29=>306 | 30=>307 | 31=>313 | n=>n,fun | 26=>9 | 28=>292 | 24=>98 | 0=>0 | 3=>3 | 37=>277 | 48=>279 | 50=>287 | 4=>4 | 40=>357 | 39=>356 | 45=>148 | 5=>5 | 9=>9 | 51=>379 | 55=>383 | 57=>399 | 58=>400 | 33=>77 | n=>n,fun | n=>n⟩
theorem Tryz.sorted29:Go.Proofs.SlLaysZ.n6 lA Tryz.sorted29_ren:={
 mixed:=by kernel_rfl
 f6:=⟨Tryz.f189.name,by decide,func189.trans (congrArg some (by kernel_rfl))⟩
 f8:=⟨Tryz.f233.name,by decide,func233.trans (congrArg some (by kernel_rfl))⟩
 f11:=⟨Tryz.f264.name,by decide,func264.trans (congrArg some (by kernel_rfl))⟩
 t0:=underlying0
 a0:=isAgg0
 z0:=sizeOf0
 v0:=zeroValue0
 t24:=underlying98
 a24:=isAgg98
 z24:=sizeOf98
 v24:=zeroValue98
 t26:=underlying9
 a26:=isAgg9
 z26:=sizeOf9
 v26:=zeroValue9
 t28:=underlying292
 a28:=isAgg292
 z28:=sizeOf292
 v28:=zeroValue292
 i26:=by kernel_rfl }
def Tryz.sort38_ren:lH:=⟨fun | 6=>234 | 8=>204 | 9=>265 | 19=>255 | 20=>256 | 21=>287 | 22=>288 | 23=>289 | 24=>290 | 25=>291 | 26=>292 | 27=>293 | 28=>294 | 29=>295 | 36=>304 | 31=>280 | 32=>281 | 37=>305 | 38=>306 | 39=>307 | 41=>313 | n=>n,fun | 27=>98 | 29=>9 | 3=>3 | 32=>277 | 26=>98 | 0=>0 | 44=>279 | 46=>287 | 4=>4 | 36=>357 | 35=>356 | 41=>148 | 5=>5 | 9=>9 | 53=>379 | 57=>383 | 63=>399 | 64=>400 | n=>n,fun | n=>n⟩
theorem Tryz.sort38:Go.Proofs.SlLaysM.n6 lA Tryz.sort38_ren:={
 mixed:=by kernel_rfl
 f6:=⟨Tryz.f234.name,by decide,func234.trans (congrArg some (by kernel_rfl))⟩
 f8:=func204.trans (congrArg some (by kernel_rfl))
 f9:=⟨Tryz.f265.name,by decide,func265.trans (congrArg some (by kernel_rfl))⟩
 f19:=func255.trans (congrArg some (by kernel_rfl))
 f20:=func256.trans (congrArg some (by kernel_rfl))
 f21:=⟨Tryz.f287.name,by decide,func287.trans (congrArg some (by kernel_rfl))⟩
 f22:=⟨Tryz.f288.name,by decide,func288.trans (congrArg some (by kernel_rfl))⟩
 f23:=⟨Tryz.f289.name,by decide,func289.trans (congrArg some (by kernel_rfl))⟩
 f24:=⟨Tryz.f290.name,by decide,func290.trans (congrArg some (by kernel_rfl))⟩
 f25:=⟨Tryz.f291.name,by decide,func291.trans (congrArg some (by kernel_rfl))⟩
 f26:=⟨Tryz.f292.name,by decide,func292.trans (congrArg some (by kernel_rfl))⟩
 f27:=⟨Tryz.f293.name,by decide,func293.trans (congrArg some (by kernel_rfl))⟩
 f28:=⟨Tryz.f294.name,by decide,func294.trans (congrArg some (by kernel_rfl))⟩
 f29:=⟨Tryz.f295.name,by decide,func295.trans (congrArg some (by kernel_rfl))⟩
 f31:=func280.trans (congrArg some (by kernel_rfl))
 f32:=func281.trans (congrArg some (by kernel_rfl))
 f36:=⟨Tryz.f304.name,by decide,func304.trans (congrArg some (by kernel_rfl))⟩
 f37:=⟨Tryz.f305.name,by decide,func305.trans (congrArg some (by kernel_rfl))⟩
 f38:=⟨Tryz.f306.name,by decide,func306.trans (congrArg some (by kernel_rfl))⟩
 f39:=⟨Tryz.f307.name,by decide,func307.trans (congrArg some (by kernel_rfl))⟩
 f41:=⟨Tryz.f313.name,by decide,func313.trans (congrArg some (by kernel_rfl))⟩
 t0:=underlying0
 a0:=isAgg0
 z0:=sizeOf0
 v0:=zeroValue0
 t3:=underlying3
 a3:=isAgg3
 z3:=sizeOf3
 v3:=zeroValue3
 t4:=underlying4
 a4:=isAgg4
 z4:=sizeOf4
 v4:=zeroValue4
 t5:=underlying5
 a5:=isAgg5
 z5:=sizeOf5
 v5:=zeroValue5
 t9:=underlying9
 a9:=isAgg9
 z9:=sizeOf9
 v9:=zeroValue9
 t26:=underlying98
 a26:=isAgg98
 z26:=sizeOf98
 v26:=zeroValue98
 t27:=underlying98
 a27:=isAgg98
 z27:=sizeOf98
 v27:=zeroValue98
 t29:=underlying9
 a29:=isAgg9
 z29:=sizeOf9
 v29:=zeroValue9
 t32:=underlying277
 a32:=isAgg277
 z32:=sizeOf277
 v32:=zeroValue277
 t35:=underlying356
 a35:=isAgg356
 z35:=sizeOf356
 v35:=zeroValue356
 t36:=underlying357
 a36:=isAgg357
 z36:=sizeOf357
 v36:=zeroValue357
 t41:=underlying148
 a41:=isAgg148
 z41:=sizeOf148
 v41:=zeroValue148
 t44:=underlying279
 a44:=isAgg279
 z44:=sizeOf279
 v44:=zeroValue279
 t46:=underlying287
 a46:=isAgg287
 z46:=sizeOf287
 v46:=zeroValue287
 t53:=underlying379
 a53:=isAgg379
 z53:=sizeOf379
 v53:=zeroValue379
 t57:=underlying383
 a57:=isAgg383
 z57:=sizeOf383
 v57:=zeroValue383
 t63:=underlying399
 a63:=isAgg399
 z63:=sizeOf399
 v63:=zeroValue399
 t64:=underlying400
 a64:=isAgg400
 z64:=sizeOf400
 v64:=zeroValue400 }
end Go.Proofs
end
section
set_option maxHeartbeats 2000000
set_option maxRecDepth 100000
open Go.Lib renaming hid → iD
open Go.Proofs.Tryz
section
namespace Go.Proofs.YtfdimggmljkkbaaGreatDoor
open Go.RowKit Go.Maps Go.Sort Go.Shelf
theorem Z5y(w:World)(b:Nat)(D:DM)(h:Zq w b D) :
  Calls lA 121 #[.map (some b)] w fun e w'=>e=.returned (.map (some w.heap.size))/\Zq w' w.heap.size D/\Below w.heap.size w w':=by
 have hc:=AnyW.maps_Clone_owns Tryz.cloneM 9 (plainElem (H:=Unit) lA 9) b (Zs D) D w h
 change Calls lA 121 _ _ _ at hc
 exact hc.mono fun e w' ⟨h1,h2,_,h4⟩=>⟨h1,h2,h4⟩
theorem Z5z:(lA.info? 224).map (fun i=>(i.zero,i.size,i.bytes))=some (some (.agg #[.nilFunc]),1,8):=by kernel_rfl
end Go.Proofs.YtfdimggmljkkbaaGreatDoor
end
section
namespace Go.Proofs.YtfdimggmljkkbaaGreatDoor
open Go.RowKit Go.Maps Go.Sort
theorem Z1n(s:List UInt8)(w:World)(hs:s.length<=140737488355328):Calls lA 117 #[Z0 s] w fun e w'=>e=.returned (.bool (Y1 s))/\w=w':=by
 unfold Z0;by_cases h1:1<=s.length
 ·have d1:decide (1<=(s.length:Int))=true:=by simp;omega
  have hn:Y1 s=decide (s.length<=80):=by simp[Y1,h1]
  rw[hn];clear hn;go_enter func117,ntmps117;go_wp2;go_ret;exact⟨by simp;omega,rfl⟩
 ·have hn:Y1 s=false:=by simp[Y1];omega
  rw[hn];clear hn;go_enter func117,ntmps117;go_wp2;go_ret;exact⟨by simp,rfl⟩
theorem Z60(g bn bs:Nat)(v:Value)(S:DS)(w:World)(h:DiskAt w g bn bs v S):Calls lA 139 #[.pointer (some ⟨g,0,none⟩)] w fun e w'=>e=.returned (.bool true)/\w=w':=by
 have c0:w.cell? ⟨g,0,none⟩=some (.map (some bn)):=by rw[h.blk.cell];rfl
 have hq:=fun w=>Zfc (P:=lA) w 61 _ _ (some bn) underlying61;go_enter func139,ntmps139;go_wp2;go_ret;exact⟨rfl,rfl⟩
theorem DiskAt.gne{w:World}{g bn bs:Nat}{v:Value}{S:DS}(h:DiskAt w g bn bs v S):∀ i ∈ bn :: bs :: v.ownBlock.toList,i ≠ g:=by
 intro i hi e;subst e;simp only[lS,Option.mem_toList] at hi;rcases hi with rfl | rfl | e
 ·obtain⟨es,c,he⟩:=h.now.at;have hB:=h.blk;unfold Blk at hB;rw[he] at hB;cases hB
 ·obtain⟨es,c,he⟩:=h.sure.at;have hB:=h.blk;unfold Blk at hB;rw[he] at hB;cases hB
 ·obtain⟨vs,ho,_⟩:=h.row;rcases ho.2 with ⟨rfl,_⟩ | ⟨g',cap,cur,rfl,_,hg,_⟩
  ·cases e
  ·have : g'=i:=by simpa[lN] using e
   subst this;have hB:=h.blk;unfold Blk at hB;rw[hg] at hB
   injection hB with hB
   injection hB with _ ht
   exact absurd ht (by decide)
theorem DiskAt.turn{w w':World}{g bn bs:Nat}{v:Value}{S S':DS}(h:DiskAt w g bn bs v S)(ht:Touch [g] w w')(hB:Blk w' g 64 (Uf bn bs v S'))(e1:S'.now=S.now)(e2:S'.sure=S.sure)(e3:S'.pend=S.pend) :
  DiskAt w' g bn bs v S':=by
 have hg:=h.gne;obtain⟨vs,ho,hop⟩:=h.row;refine⟨hB,?_,?_,h.ne,vs,?_,?_⟩
 ·rw[e1];exact h.now.touch ht (by simpa using hg bn (by simp))
 ·rw[e2];exact h.sure.touch ht (by simpa using hg bs (by simp))
 ·rw[e3];exact Zk ho ht (fun b hb=>by simpa using hg b (by simp[hb]))
 ·rw[e3];exact hop.touch ht (fun i hi cs hc=>by
   have : i=g:=by simpa using hi
   subst this;exact h.blk.ne_ hc (by decide) rfl)
theorem Xl{k:IntKind}{a b:Int}(h:a=b):lW (.int k a)=.returned (.int k b):=by rw[h]
theorem Zag(g bn bs:Nat)(v:Value)(S:DS)(w:World)(h:DiskAt w g bn bs v S):Calls lA 116 #[.pointer (some ⟨g,0,none⟩),.bool false] w fun e w'=>e=.returned (.int .i64 S.powR)/\w=w':=by
 have c5:w.cell? ⟨g,5,none⟩=some (.bool S.off):=by rw[h.blk.cell];rfl
 have hm:=iD (Z60 g bn bs v S w h);clear h;cases ho:S.off with
 | true =>
  have hp:Hid (S.powR=15):=iD (by simp[DS.powR,ho]);rw[ho] at c5;clear ho;go_enter func116,ntmps116;go_wp2_with fail;refine hm.out.mono ?_;rintro e w' ⟨rfl,rfl⟩;go_wp2;go_ret;exact⟨Xl hp.out.symm,rfl⟩
 | false =>
  have hp:Hid (S.powR=0):=iD (by simp[DS.powR,ho]);rw[ho] at c5;clear ho;go_enter func116,ntmps116;go_wp2_with fail;refine hm.out.mono ?_;rintro e w' ⟨rfl,rfl⟩;go_wp2;go_ret;exact⟨Xl hp.out.symm,rfl⟩
theorem Z3d(g bn bs:Nat)(v:Value)(S:DS)(w:World)(h:DiskAt w g bn bs v S)(f0:-1<=S.fuse)(f1:S.fuse<=1000000):Calls lA 116 #[.pointer (some ⟨g,0,none⟩),.bool true] w fun e w' =>
  e=.returned (.int .i64 S.powE)/\DiskAt w' g bn bs v S.tick/\Touch [g] w w'/\w'.heap.size=w.heap.size:=by
 have c4:w.cell? ⟨g,4,none⟩=some (.int .i64 S.fuse):=by rw[h.blk.cell];rfl
 have c5:w.cell? ⟨g,5,none⟩=some (.bool S.off):=by rw[h.blk.cell];rfl
 have z4:=h.blk.frozen 4;have z5:=h.blk.frozen 5;have hm:=iD (Z60 g bn bs v S w h);replace h:=iD h;cases ho:S.off with
 | true =>
  have ht:Hid (S.tick=S):=iD (by simp[DS.tick,ho]);have hp:Hid (S.powE=15):=iD (by simp[DS.powE,ht.out,ho]);rw[ho] at c5;clear ho;go_enter func116,ntmps116;go_wp2_with fail;refine hm.out.mono ?_;rintro e w' ⟨rfl,rfl⟩;go_wp2;go_ret;exact⟨Xl hp.out.symm,by rw[ht.out];exact h.out,Touch.refl _ _,rfl⟩
 | false =>
  have ht:Hid (S.tick={ S with off:=decide (S.fuse=0),fuse:=max (S.fuse - 1) (-1) }):=iD (by simp[DS.tick,ho]);rw[ho] at c5;clear ho;obtain⟨f,hf⟩:∃ f,f=S.fuse:=⟨_,rfl⟩;rw[<-hf] at f0 f1 c4 ht;replace hf:=iD hf;by_cases hz:f=0
  ·have hp:Hid (S.powE=15):=iD (by simp[DS.powE,ht.out,hz]);subst hz;go_enter func116,ntmps116;go_wp2_with fail;refine hm.out.mono ?_;rintro e w' ⟨rfl,rfl⟩;go_wp2;go_ret;refine⟨Xl hp.out.symm,?_,(Touch.setCell _ (by simp)).trans (Touch.setCell _ (by simp)) (fun i hi=>.inl hi),by simp⟩;rw[ht.out];exact h.out.turn ((Touch.setCell _ (by simp)).trans (Touch.setCell _ (by simp)) (fun i hi=>.inl hi)) ((h.out.blk.set_ 5 _).set_ 4 _) rfl rfl rfl
  ·have hB:(f == 0)=false:=by simp[hz]
   have hp:Hid (S.powE=0):=iD (by simp[DS.powE,ht.out,hz]);replace hz:=iD hz;have hD:=h;clear h;go_enter func116,ntmps116;go_wp2_with fail;refine hm.out.mono ?_;rintro e w' ⟨rfl,rfl⟩;go_wp2;all_goals
    go_ret;refine⟨Xl hp.out.symm,?_,(Touch.setCell _ (by simp)).trans (Touch.setCell _ (by simp)) (fun i hi=>.inl hi),by simp⟩;rw[ht.out,decide_eq_false hz.out];first
     | (rw[show max (f - 1) (-1)=f - 1 by omega];exact hD.out.turn ((Touch.setCell _ (by simp)).trans (Touch.setCell _ (by simp)) (fun i hi=>.inl hi)) ((hD.out.blk.set_ 5 _).set_ 4 _) rfl rfl rfl)
     | (rw[show max (f - 1) (-1) = -1 by omega];exact hD.out.turn ((Touch.setCell _ (by simp)).trans (Touch.setCell _ (by simp)) (fun i hi=>.inl hi)) ((hD.out.blk.set_ 5 _).set_ 4 _) rfl rfl rfl)
     | exact hD.out.turn ((Touch.setCell _ (by simp)).trans (Touch.setCell _ (by simp)) (fun i hi=>.inl hi)) ((hD.out.blk.set_ 5 _).set_ 4 _) rfl rfl rfl
def Va(D:DM)(left:Lit->Bool):Nat:=(((fEs D).filter fun p=>left p.1).map Uc).sum
theorem Zah(D:DM)(left:Lit->Bool):Va D left<=Yx D:=by
 unfold Va Yx;induction fEs D with
 | nil=>simp
 | cons p r ih =>
  rw[List.filter_cons];split <;> simp <;> omega
theorem Zj8{D:DM}(h:Yl D):Va D (lO D)=Yx D:=by
 obtain⟨es,rfl,hp,hs⟩:=h;unfold Va Yx;rw[List.filter_eq_self.2];intro p hm;show lO (.map es) p.1=true;rw[has_eq,lX];obtain⟨k,v,rfl⟩:=hs p hm;exact⟨_,hm,by simp[Lit.sameKey]⟩
theorem Zj9{D:DM}{left:Lit->Bool}(h:∀ k,left k=false):Va D left=0:=by
 unfold Va;rw[List.filter_eq_nil_iff.2 (by simp[h])];rfl
theorem Zja{D:DM}(h:Yl D){left:Lit->Bool}{k t:List UInt8}(hl:left (.string k)=true)(hat:∀ zd,D.atKey (.string k) zd=Jg t) :
  Va D left=t.length+Va D (fun z=>left z && !z.sameKey (.string k)):=by
 have hh:=has_true_of_atKey hat;obtain⟨es,rfl,hp,hs⟩:=h;have hhit:Q6 es (.string k)=Jg t:=by
  have h1:=hat (Jg []);have h2:=Z4n es k;unfold fS at h2;rw[h1] at h2;unfold Q6 at h2 ⊢;rw[has_eq,lX] at hh;obtain⟨p,hm,hsk⟩:=hh;cases hf:es.find? (fun p=>p.1.sameKey (.string k)) with
  | none=>exact absurd hsk (by simpa using List.find?_eq_none.1 hf p hm)
  | some q =>
   rw[hf] at h2;obtain⟨k',v,rfl⟩:=hs q (List.mem_of_find?_eq_some hf);simp only[G6,Jg] at h2 ⊢;rw[h2]
 unfold Va;show ((es.filter fun p=>left p.1).map Uc).sum=_+((es.filter fun p=>left p.1 && !p.1.sameKey (.string k)).map Uc).sum;have h3:(es.filter fun p=>left p.1 && !p.1.sameKey (.string k))=((es.filter fun p=>left p.1).filter fun p=>!p.1.sameKey (.string k)):=by
  rw[List.filter_filter]
  congr 1
  funext p
  exact Bool.and_comm _ _
 rw[h3,<-Z2k (.string k) (es.filter fun p=>left p.1) (hp.filter _)];have h4:Q6 (es.filter fun p=>left p.1) (.string k)=Q6 es (.string k):=by
  unfold Q6;rw[find_filter_keep (fun p hp'=>by rw[WideAt.sameKey_eq hp'];exact hl)]
 rw[h4,hhit];simp only[G6,Jg];exact Nat.add_comm _ _
def Zjb(w:World)(b:Nat)(D:DM)(n:Nat)(w':World):Prop:=∃ left cnt,w'.ranges lA 9 (plainElem (H:=Unit) lA 9) b w.heap.size (Zs D) D left cnt/\n+Va D left=Yx D/\Below w.heap.size w w'
theorem Zjc(w:World)(b:Nat)(D:DM)(h:Zq w b D)(hs:Yx D<=1099511627776):Calls lA 118 #[.map (some b)] w fun e w'=>e=.returned (.int .i64 (Yx D))/\Below w.heap.size w w':=by
 have hstr:=iD h.str;have hlt:=h.lt;replace h:=iD h;go_enter func118,ntmps118;go_wp2_with (refine wpList_range_own _ rfl (.tmp 6) 61 rfl 9 9 Vr underlying61 (plainElem (H:=Unit) lA 9) b (Zs D) D rfl h.out ?_;intro w1 hrg hg1 hz1;go_frame);replace hrg:=iD hrg;replace hg1:=iD hg1;replace hz1:=iD hz1;go_loopw [3,5] (fun n _ wr=>∃ k:Nat,n=.int .i64 k/\Zjb w b D k wr) (fun _ _ wr=>wr.rangeLeft b w.heap.size)
 case atStart=>exact⟨0,rfl,_,_,hrg.out,by rw[Zj8 hstr.out];simp,(lB _ _).grown hg1.out (lI _) (by simp)⟩
 case round =>
  obtain⟨k,rfl,left,cnt,hr,hk,hb⟩:=hrel;have hle:=Zah D left;have hkb:(k:Int)<=1099511627776:=by omega
  replace hr:=iD hr;replace hk:=iD hk;replace hb:=iD hb;clear hle;go_wp2_with (first
   | (refine wpList_next_ranges _ rfl (.tmp 7) rfl 9 Vr (plainElem (H:=Unit) lA 9) encStr Z0 (fun key kl hk=>by obtain⟨x,hx,_⟩:=lY underlying9 hk;exact⟨x,hx⟩) (fun v y hv=>by obtain⟨c,rfl,_⟩:=Z0y hv;exact⟨c,rfl⟩) b w.heap.size (Zs D) D left cnt rfl hr.out ?_ ?_))
  ·intro hc0 hl0;have hk':=hk.out;rw[Zj9 hl0] at hk';clear hl0 hc0;have hK:Hid (k=Yx D):=iD (by omega);clear hk';go_wp2;go_ret;exact⟨Xl (by rw[hK.out]),hb.out⟩
  ·intro x c kl yd yp w2 cnt2 hkey hlk hv hat hrg2 hlt2 hg2 hs2 hen;obtain⟨x',ex,rfl,_⟩:=lY underlying9 hkey;obtain rfl:x=x':=encStr_inj ex;obtain⟨t,et,ez,ht⟩:=Z0y hv;obtain rfl:c=t:=encStr_inj et;obtain⟨rfl,rfl⟩:yd=Jg c/\yp=[]:=by simpa using ez
   have hst:=Zja hstr.out hlk hat;have hle2:=Zah D (fun z=>left z && !z.sameKey (.string x));have hk':=hk.out;have hkc:(k:Int)+(c.length:Int)<=1099511627776:=by omega
   have hfin:Hid ((k+c.length)+Va D (fun z=>left z && !z.sameKey (.string x))=Yx D):=iD (by omega);have hmeas:Hid (w2.rangeLeft b w.heap.size<wr.rangeLeft b w.heap.size):=iD (by rw[hrg2.left_eq,hr.out.left_eq];exact hlt2);have hbel:Hid (Below w.heap.size w w2):=iD (hb.out.grown hg2 hb.out.size (fun j hj=>by cases hj;exact lI _));replace hrg2:=iD hrg2;clear hst hle2 hk' ex et ez ht hat hlk hkey hlt2 hv hs2 hg2;unfold encStr Z0 at hen;unfold encStr Z0;go_wp2;go_roundw
   case rel=>exact⟨k+c.length,by go_num,_,_,hrg2.out,hfin.out,hbel.out⟩
   case measure=>exact hmeas.out
theorem Qi{s:List UInt8}(h:s.length<=80):s.length<=maxLen:=by unfold maxLen;omega
theorem Zjd{s:List UInt8}(h:s.length<=16777216):s.length<=maxLen:=by unfold maxLen;omega
theorem Zje(w:World)(b a:Nat)(D:DM)(s:List UInt8)(k:Int)(h:Zq w b D)(ha:Blk w a 9 [Z0 s])(hs:s.length<=80) :
  Calls lA 128 #[.map (some b),.int .i64 k,.pointer (some ⟨a,0,none⟩)] w fun e w'=>e=.returned (.tuple #[])/\Zq w' b ((DOp.remove s).act k D)/\Touch [b] w w':=by
 have c0:w.cell? ⟨a,0,none⟩=some (Z0 s):=by rw[ha.cell];rfl
 clear ha;replace h:=iD h;go_enter func128,ntmps128;go_wp2_with (at_delete;refine wpList_delete_own _ rfl (.tmp 5) (.tmp 6) 61 9 rfl 9 Vr underlying61 (plainElem (H:=Unit) lA 9) b (Zs D) D rfl h.out (Z0 s) (.string s) rfl (G7 s (Qi hs)) ?_;intro w1 ho hm);exact lP (v:=.tuple #[]) (lJ (by rfl) _ _ _) rfl ⟨rfl,Zq.of ho,Touch.grown hm.grown (by simp)⟩
theorem Zjf(w:World)(b a a':Nat)(D:DM)(s t:List UInt8)(k:Int)(h:Zq w b D)(hl:Zs D<8796093022208)(ha:Blk w a 9 [Z0 s])(ha':Blk w a' 9 [Z0 t])(hs:s.length<=80)(ht:t.length<=80) :
  Calls lA 122 #[.map (some b),.int .i64 k,.pointer (some ⟨a,0,none⟩),.pointer (some ⟨a',0,none⟩)] w fun e w'=>e=.returned (.tuple #[])/\Zq w' b ((DOp.rename s t).act k D)/\Touch [b] w w':=by
 have c0:w.cell? ⟨a,0,none⟩=some (Z0 s):=by rw[ha.cell];rfl
 have c1:w.cell? ⟨a',0,none⟩=some (Z0 t):=by rw[ha'.cell];rfl
 have hlook:=h.look (Qi hs);cases hh:Zw D s with
 | false =>
  have hact:Hid ((DOp.rename s t).act k D=D):=iD (by simp[DOp.act,hh]);rw[hh] at hlook;clear hh ha ha';replace h:=iD h;go_enter func122,ntmps122;go_wp2;refine lP (v:=.tuple #[]) (lJ (by rfl) _ _ _) rfl ⟨rfl,?_,Touch.refl _ _⟩;rw[hact.out];exact h.out
 | true =>
  have hact:Hid ((DOp.rename s t).act k D=Zx (Xf D s) t (fS D s)):=iD (by simp[DOp.act,hh]);have hle:=Z8l (k:=s) h.str;have htx:=h.text_le (Qi hs);have hb1:a ≠ b:=fun e=>by
   obtain⟨es,c,he⟩:=h.at;subst e;unfold Blk at ha;rw[he] at ha;cases ha
  have hb2:a' ≠ b:=fun e=>by
   obtain⟨es,c,he⟩:=h.at;subst e;unfold Blk at ha';rw[he] at ha';cases ha'
  rw[hh] at hlook;replace h:=iD h;replace hle:=iD hle;replace ha:=iD ha;replace ha':=iD ha';replace hlook:=iD hlook;obtain⟨x,hx⟩:∃ x,x=fS D s:=⟨_,rfl⟩;rw[<-hx] at hact hlook htx;clear hh hx;replace htx:=iD htx;have hlook':=hlook.out;replace hb1:=iD hb1;replace hb2:=iD hb2;replace hl:=iD hl;go_enter func122,ntmps122;go_wp2_with (first
   | (at_delete;refine wpList_delete_own _ rfl (.tmp 15) (.tmp 16) 61 9 rfl 9 Vr underlying61 (plainElem (H:=Unit) lA 9) b (Zs D) D rfl h.out (Z0 s) (.string s) rfl (G7 s (Qi hs)) ?_;intro w1 ho hm;have c2:w1.cell? ⟨a',0,none⟩=some (Z0 t):=(by rw[(ha'.out.grown hm.grown (by simpa using hb2.out)).cell];rfl);replace ho:=iD (Zq.of ho);replace hm:=iD hm)
   | (at_mapUpdate;refine lT _ rfl (.tmp 17) (.tmp 18) (.tmp 19) 61 rfl 9 9 Vr underlying61 (plainElem (H:=Unit) lA 9) b (Zs (Xf D s)) (Xf D s) rfl ho.out (Nat.lt_of_le_of_lt hle.out (lZ hl.out (by unfold maxLen;omega))) (Z0 t) (Z0 x) (.string t) rfl rfl (G7 t (Qi ht)) (Jg x) [] (Z0x x htx.out) ?_;intro w2 ho2 hm2;replace ho2:=iD (Zq.of ho2);replace hm2:=iD hm2))
  refine lP (v:=.tuple #[]) (lJ (by rfl) _ _ _) rfl ⟨rfl,?_,(Touch.grown (L:=[b]) hm.out.grown (by simp)).trans (Touch.grown (L:=[b]) hm2.out (by simp)) (fun i hi=>.inl hi)⟩;rw[hact.out];exact ho2.out
theorem Zjg(t:List UInt8)(j:Nat):(⟨t.toArray⟩:ByteArray).extract 0 j=⟨(t.take j).toArray⟩:=by
 apply ByteArray.ext;simp
theorem Zjh(k:Int)(n:Nat)(h1:1<k):∃ j:Nat,Int.tmod (k - 2) ((n:Int)+1)=j/\((k - 2) % ((n:Int)+1)).toNat=j/\j<=n:=by
 have h2:0<=(k - 2) % ((n:Int)+1):=Int.emod_nonneg _ (by omega);have h3:(k - 2) % ((n:Int)+1)<(n:Int)+1:=Int.emod_lt_of_pos _ (by omega);refine⟨((k - 2) % ((n:Int)+1)).toNat,?_,rfl,by omega⟩;rw[Int.tmod_eq_emod_of_nonneg (by omega)];omega
theorem Zji(w:World)(b a a':Nat)(D:DM)(s t:List UInt8)(k:Int)(hk1:k<=9223372036854775807)(h:Zq w b D)(hl:Zs D<8796093022208)(ha:Blk w a 9 [Z0 t])(ha':Blk w a' 9 [Z0 s])(hs:s.length<=80)(ht:t.length<=16777216) :
  Calls lA 120 #[.map (some b),.int .i64 k,.pointer (some ⟨a,0,none⟩),.pointer (some ⟨a',0,none⟩)] w fun e w'=>e=.returned (.tuple #[])/\Zq w' b ((DOp.write s t).act k D)/\Touch [b] w w':=by
 have c0:w.cell? ⟨a,0,none⟩=some (Z0 t):=by rw[ha.cell];rfl
 have c1:w.cell? ⟨a',0,none⟩=some (Z0 s):=by rw[ha'.cell];rfl
 have hl':Hid (Zs D<maxLen):=iD (by unfold maxLen;omega);clear hl;replace h:=iD h;clear ha ha';by_cases hk:1<k
 ·obtain⟨j,e1,e2,hj⟩:=Zjh k t.length hk;have hact:Hid ((DOp.write s t).act k D=Zx D s (t.take j)):=iD (by simp only[DOp.act,O5,if_pos hk,e2]);have hjl:Hid ((t.take j).length<=maxLen):=iD (by rw[List.length_take];unfold maxLen;omega);have e0:IntKind.i64.wrap (k - 2)=k - 2:=lQ _ (by omega);have e3:IntKind.i64.wrap ((t.length:Int)+1)=(t.length:Int)+1:=lQ _ (by omega);have b1:(0:Int)<=(j:Int):=by omega
  have b2:(j:Int)<=(t.length:Int):=by omega
  clear hk1 e2;unfold Z0 at c0;go_enter func120,ntmps120;go_wp2;refine Ye 10 (by kernel_rfl) (by kernel_rfl) ?_;simp only[List.take_succ_cons,List.take_zero,List.drop_succ_cons,List.drop_zero];repeat (first
    | go_big_quiet_step (fail))
  refine lC ?_;rintro _ ⟨nq,rfl⟩;rw[Zjg];refine lT _ rfl (.tmp 8) (.tmp 9) (.tmp 17) 61 rfl 9 9 Vr underlying61 (plainElem (H:=Unit) lA 9) b (Zs D) D rfl h.out hl'.out (Z0 s) (Z0 (t.take j)) (.string s) rfl rfl (G7 s (Qi hs)) (Jg (t.take j)) [] (Z0x _ hjl.out) ?_;intro w2 ho2 hm2;replace ho2:=iD (Zq.of ho2);replace hm2:=iD hm2;go_frame;go_wp2;refine lE (v:=.tuple #[]) (lJ (by rfl) _ _ _) rfl ⟨rfl,?_,(Touch.drewN nq).trans (Touch.grown (L:=[b]) hm2.out (by simp)) (fun i hi=>.inl hi)⟩;rw[hact.out];exact ho2.out
 ·have hact:Hid ((DOp.write s t).act k D=Zx D s t):=iD (by simp only[DOp.act,O5,if_neg hk]);go_enter func120,ntmps120;go_wp2_with (at_mapUpdate;refine lT _ rfl (.tmp 18) (.tmp 19) (.tmp 20) 61 rfl 9 9 Vr underlying61 (plainElem (H:=Unit) lA 9) b (Zs D) D rfl h.out hl'.out (Z0 s) (Z0 t) (.string s) rfl rfl (G7 s (Qi hs)) (Jg t) [] (Z0x t (Zjd ht)) ?_;intro w2 ho2 hm2;replace ho2:=iD (Zq.of ho2);replace hm2:=iD hm2);refine lP (v:=.tuple #[]) (lJ (by rfl) _ _ _) rfl ⟨rfl,?_,Touch.grown (L:=[b]) hm2.out (by simp)⟩;rw[hact.out];exact ho2.out
end Go.Proofs.YtfdimggmljkkbaaGreatDoor
end
section
namespace Go.Proofs.YtfdimggmljkkbaaGreatDoor
open Go.RowKit Go.Maps Go.Sort
theorem callI:InfoOf lA 224 (.agg #[.nilFunc]) 1 8:=⟨Z5z,by simp[l0],by omega⟩
def Z61(w:World)(g bn bs:Nat)(v:Value)(S:DS)(w':World):Prop:=∃ v',DiskAt w' g bn bs v' S/\Touch (Zh g bn bs v) w w'/\(v'.ownBlock=v.ownBlock ∨ ∀ b,v'.ownBlock=some b->w.heap.size<=b)
theorem Z61.turned{w w':World}{g bn bs:Nat}{v:Value}{S:DS}(h:Z61 w g bn bs v S w'):Yt w (Zh g bn bs v) g S w':=by
 obtain⟨v',hd,ht,hv⟩:=h;refine⟨ht,_,⟨bn,bs,v',hd,rfl⟩,fun i hi=>?_⟩;rcases DiskAt.mem_foot hi with rfl | rfl | rfl | e
 ·simp[Zh]
 ·simp[Zh]
 ·simp[Zh]
 ·rcases hv with hv | hv
  ·rw[hv] at e;left;simp[Zh,e]
  ·exact .inr (hv i e)
theorem DiskAt.wrote{w w':World}{g bn bs:Nat}{v:Value}{S:DS}{D:DM}(h:DiskAt w g bn bs v S)(ht:Touch [bn] w w')(hm:Zq w' bn D):DiskAt w' g bn bs v { S with now:=D }:=by
 have hg:=h.gne;have hnb:∀ i cs t,Blk w i t cs->i ≠ bn:=fun i cs t hc e=>by
  obtain⟨es,c,he⟩:=h.now.at;subst e;unfold Blk at hc;rw[he] at hc;cases hc
 obtain⟨vs,ho,hop⟩:=h.row;refine⟨h.blk.touch ht (by simpa using hnb g _ _ h.blk),hm,h.sure.touch ht (by simpa using h.ne.symm),h.ne,vs,Zk ho ht (fun b hb=>?_),hop.touch ht (fun i hi cs hc=>hnb i cs _ hc (by simpa using hi))⟩;rcases ho.2 with ⟨rfl,_⟩ | ⟨g',cap,cur,rfl,_,hg',_⟩
 ·cases hb
 ·have : g'=b:=by simpa[lN] using hb
  subst this;have:=hnb g' cur.toList _ (show Blk w g' _ _ from by unfold Blk;simpa using hg');simpa using this
theorem DiskAt.rowed{w w':World}{g bn bs:Nat}{v v':Value}{S:DS}{o:DOp}{vs:List Value}(h:DiskAt w g bn bs v S)(hg:w.grownBy w' v.ownBlock)(ho:w'.ownsRow 0 224 1 v' (S.pend.length+1) vs)(hop:Vs w (S.pend++[o]) vs)
  {w2:World} (h2:w2=w'.setCell ⟨g,2,none⟩ v'):DiskAt w2 g bn bs v' { S with pend:=S.pend++[o] }:=by
 subst h2;have ht:Touch (v.ownBlock.toList) w w':=Touch.grown hg (fun b hb=>by simp[hb]);have hgne:=h.gne;have hnb:Qu w v.ownBlock.toList:=fun i hi=>h.noBox i (by simp[Zh];right;right;right;simpa using hi);obtain⟨vs0,hr,_⟩:=h.row;have hmap:∀ b D,Zq w b D->b ∉ v.ownBlock.toList:=fun b D hm hb=>by
  rcases hr.2 with ⟨rfl,_⟩ | ⟨g',cap,cur,rfl,_,hg',_⟩
  ·cases hb
  ·have : g'=b:=by simpa[lN,eq_comm] using hb
   subst this;obtain⟨es,c,he⟩:=hm.at;rw[he] at hg';cases hg'
 have hb1:Blk w' g 64 (Uf bn bs v S):=h.blk.touch ht (fun hb=>hgne g (by simp only[lS];right;right;exact hb) rfl);have n1:=h.now.touch ht (hmap _ _ h.now);have s1:=h.sure.touch ht (hmap _ _ h.sure);have ht2:Touch [g] w' (w'.setCell ⟨g,2,none⟩ v'):=Touch.setCell _ (by simp);refine⟨hb1.set_ 2 v',n1.touch ht2 (by simpa using hgne bn (by simp)),s1.touch ht2 (by simpa using hgne bs (by simp)),h.ne,vs,?_,(hop.touch ht hnb).touch ht2 (fun i hi cs hc=>by
   have : i=g:=by simpa using hi
   subst this;exact hb1.ne_ hc (by decide) rfl)⟩
 have hv':w'.ownsRow 0 224 1 v' (S.pend++[o]).length vs:=by simpa using ho
 refine Zk hv' ht2 (fun b hb e=>?_);have : b=g:=by simpa using e
 subst this;rcases ho.2 with ⟨rfl,_⟩ | ⟨g',cap,cur,rfl,_,hg',_⟩
 ·cases hb
 ·have : g'=b:=by simpa[lN] using hb
  subst this;unfold Blk at hb1;rw[hg'] at hb1
  injection hb1 with hb1
  injection hb1 with _ ht
  exact absurd ht (by decide)
theorem Zjj(w:World)(b:Nat)(D:DM)(o:DOp)(cl:Value)(k:Int)(hk:k<=9223372036854775807)(h:Zq w b D)(hl:Zs D<8796093022208)(hcl:Ue w o cl)(hok:o.ok) :
  ∃ fn cap,cl=.func (.func fn) #[] cap/\Enters lA fn/\Calls lA fn (#[.map (some b),.int .i64 k]++cap) w fun e w'=>e=.returned (.tuple #[])/\Zq w' b (o.act k D)/\Touch [b] w w':=by
 cases o with
 | write s t =>
  obtain⟨a,a',rfl,h1,h2⟩:=hcl;exact⟨_,_,rfl,lK func120 (by kernel_rfl) rfl,Zji w b a a' D s t k hk h hl h1 h2 hok.1 hok.2⟩
 | remove s =>
  obtain⟨a,rfl,h1⟩:=hcl;exact⟨_,_,rfl,lK func128 (by kernel_rfl) rfl,Zje w b a D s k h h1 hok⟩
 | rename s t =>
  obtain⟨a,a',rfl,h1,h2⟩:=hcl;exact⟨_,_,rfl,lK func122 (by kernel_rfl) rfl,Zjf w b a a' D s t k h hl h1 h2 hok.1 hok.2⟩
theorem Z62(g bn bs:Nat)(v:Value)(S:DS)(o:DOp)(cl:Value)(w:World)(h:DiskAt w g bn bs v S)(hcl:Ue w o cl)(hok:o.ok)(hl:Zs S.now<8796093022208)(hp:S.pend.length<4398046511104) :
  Calls lA 119 #[.pointer (some ⟨g,0,none⟩),cl] w fun e w'=>e=.returned (.int .i64 0)/\Z61 w g bn bs v (S.does o) w':=by
 have c0:w.cell? ⟨g,0,none⟩=some (.map (some bn)):=by rw[h.blk.cell];rfl
 obtain⟨fn,cap,rfl,hen,hc⟩:=Zjj w bn S.now o cl 1 (by omega) h.now hl hcl hok;replace hcl:=iD hcl;replace hen:=iD hen;replace hc:=iD hc;replace h:=iD h;clear hl;go_enter func119,ntmps119;go_wp2_with fail;rw[hen.out,Oper.upon_enter];refine hc.out.mono ?_;rintro e w1 ⟨rfl,hm1,ht1⟩;have hd1:=h.out.wrote ht1 hm1;have hnb1:Qu w [bn]:=fun i hi=>h.out.noBox i (by simp[Zh];right;left;simpa using hi);have hop1:=iD (hcl.out.touch ht1 hnb1);clear hnb1;obtain⟨vs,hrow,hops⟩:=hd1.row;have c2:w1.cell? ⟨g,2,none⟩=some v:=by rw[hd1.blk.cell];rfl
 have z2:=hd1.blk.frozen 2;have hlt:=hd1.blk.lt;replace hd1:=iD hd1;replace ht1:=iD ht1;replace hrow:=iD hrow;replace hops:=iD hops;clear hm1 c0;have hgn:Hid (some g ≠ v.ownBlock):=iD (fun e=>hd1.out.gne g (by simp[<- e]) rfl);have hone:Hid (∀ u ∈ [lU (.func fn) #[] cap],u.oneCell'=true):=iD (fun u hu=>by rw[lF.1 hu];exact hop1.out.one);go_wp2_with (at_builtin;refine X0 _ rfl (.tmp 15) (.tmp 18) 62 rfl 0 224 (.agg #[.nilFunc]) 1 8 underlying62 callI v S.pend.length vs rfl (hrow.out.alloc _) (fun _=>True) (some ⟨w1.heap.size,0,none⟩) 1 1 [.func (.func fn) #[] cap] rfl rfl (Rd.of_blk (cs:=[.func (.func fn) #[] cap]) (r:=[]) (Blk.new_at rfl) rfl trivial) hone.out (by unfold maxLen;omega) (by omega) (Nat.zero_le _) ?_;intro v' w2 hrow2 hg2 hv2;obtain⟨A',cap',rfl,_,_⟩:=Z6 hrow2;have hB2:=(hd1.out.blk.alloc _).grown hg2 hgn.out;have z3:=hB2.frozen 2;have c3:w2.cell? ⟨g,2,none⟩=some v:=(by rw[hB2.cell];rfl);replace hB2:=iD hB2;replace hrow2:=iD hrow2;replace hg2:=iD hg2;replace hv2:=iD hv2;go_frame);go_ret;have hb1:Below w1.heap.size w1 (w1.alloc (Obj.cells #[lU (Fn.func fn) #[] cap] 224)):=bL;have hd2:=hd1.out.below hb1;have ht2:=Touch.ofBelow (L:=[]) hb1;have hops2:Vs (w1.alloc (Obj.cells #[lU (Fn.func fn) #[] cap] 224)) (S.pend++[o]) (vs++[.func (.func fn) #[] cap]):=(hops.out.snoc hop1.out).touch ht2 (by simp[Qu]);refine⟨rfl,_,hd2.rowed hg2.out hrow2.out hops2 rfl,?_,?_⟩
 ·refine (ht1.out.mono (L':=Zh g bn bs v) (fun i hi=>.inl (by have : i=bn:=(by simpa using hi);rw[this];simp[Zh]))).trans (L':=Zh g bn bs v) ?_ (fun i hi=>.inl hi);refine (Touch.ofBelow hb1).trans (L':=Zh g bn bs v) ?_ (fun i hi=>.inl hi);exact (Touch.grown (L:=Zh g bn bs v) hg2.out (fun b hb=>by simp[Zh,hb])).trans (Touch.setCell (L:=Zh g bn bs v) _ (by simp[Zh])) (fun i hi=>.inl hi)
 ·rcases hv2.out with hv | hv
  ·exact .inl hv
  ·right;intro b hb;rw[hv] at hb;have:=ht1.out.size;simp at hb;omega
end Go.Proofs.YtfdimggmljkkbaaGreatDoor
end
section
namespace Go.Proofs.YtfdimggmljkkbaaGreatDoor
open Go.RowKit Go.Maps Go.Sort
theorem J0(S:DS):S.tick.now=S.now:=by unfold DS.tick;split <;> rfl
theorem Z3e(S:DS):S.tick.sure=S.sure:=by unfold DS.tick;split <;> rfl
theorem Om(S:DS):S.tick.pend=S.pend:=by unfold DS.tick;split <;> rfl
theorem Z1o(S:DS):S.tick.room=S.room:=by unfold DS.tick;split <;> rfl
theorem Ky{w:World}{p:Addr}{v:Value}(h:w.cell? p=some v)(s:X1 w):s.1.cell? p=some v:=by
 rw[s.2.cell (World.block_lt_of_cell? _ _ h)];exact h
theorem Zq.over{w:World}{b:Nat}{D:DM}(h:Zq w b D)(s:X1 w):Zq s.1 b D:=h.block (s.2.block b h.lt)
structure Asked (S:DS):Prop extends S.Good where
 few2:S.pend.length<4398046511104
theorem Z63{w:World}(s:List UInt8):Blk (w.alloc (.cells #[Z0 s] 9)) w.heap.size 9 [Z0 s]:=Blk.new_at (cs:=[Z0 s]) rfl
theorem Zai(g bn bs:Nat)(v:Value)(S:DS)(s t:List UInt8)(w:World)(h:DiskAt w g bn bs v S)(hA:Asked S)(hs:s.length<=140737488355328)(ht:t.length<=140737488355328) :
  Calls lA 59 #[.pointer (some ⟨g,0,none⟩),Z0 s,Z0 t] w fun e w'=>e=.returned (.int .i64 ((Call.write s t).errno S))/\Yt w (Zh g bn bs v) g ((Call.write s t).turn S) w':=by
 have hbl:Below w.heap.size w ((w.alloc (.cells #[Z0 s] 9)).alloc (.cells #[Z0 t] 9)):=bL.alloc (by simp) _;have hB1:Blk ((w.alloc (.cells #[Z0 s] 9)).alloc (.cells #[Z0 t] 9)) w.heap.size 9 [Z0 s]:=(Z63 s).alloc _;have hB2:Blk ((w.alloc (.cells #[Z0 s] 9)).alloc (.cells #[Z0 t] 9)) (w.heap.size+1) 9 [Z0 t]:=Blk.new_at (cs:=[Z0 t]) (by simp);have hd0:=h.below hbl;have hA':=iD hA;replace h:=iD h;go_enter func59,ntmps59;go_wp2_with fail;generalize ((w.alloc (.cells #[Z0 s] 9)).alloc (.cells #[Z0 t] 9))=w0 at hbl hB1 hB2 hd0 ⊢;refine (Z3d g bn bs v S w0 hd0 hA.fuse0 hA.fuse1).mono ?_;rintro e w1 ⟨rfl,hd1,ht1,hz1⟩;have hB1':=hB1.touch ht1 (by have:=hB1.ne_ hd0.blk (by decide);simpa using this);have hB2':=hB2.touch ht1 (by have:=hB2.ne_ hd0.blk (by decide);simpa using this);have htt:Touch (Zh g bn bs v) w w1:=(Touch.ofBelow hbl).trans ht1 (fun i hi=>.inl (by have : i=g:=(by simpa using hi);rw[this];simp[Zh]));have hend:∀ w',Below w1.heap.size w1 w'->Yt w (Zh g bn bs v) g S.tick w':=fun w' hb=>Yt.then htt (fun i hi=>.inl hi) (Yt.same ⟨bn,bs,v,hd1,rfl⟩ hb);replace hend:=iD hend;clear hbl hB1 hB2 hd0 ht1 hz1;cases ho:S.tick.off with
 | true =>
  have hp:Hid (S.powE=15):=iD (by simp[DS.powE,ho]);have he:Hid ((Call.write s t).errno S=15):=iD (by simp[Call.errno,ho]);have hu:Hid ((Call.write s t).turn S=S.tick):=iD (by simp[Call.turn,ho]);rw[hp.out];clear hA ho htt hd1 hB1' hB2';go_wp2;go_ret;rw[hu.out];exact⟨Xl he.out.symm,hend.out _ (lB _ _)⟩
 | false =>
  have hp:Hid (S.powE=0):=iD (by simp[DS.powE,ho]);rw[hp.out];have k1:w1.cell? ⟨w.heap.size,0,none⟩=some (Z0 s):=by rw[hB1'.cell];rfl
  have k2:w1.cell? ⟨w.heap.size+1,0,none⟩=some (Z0 t):=by rw[hB2'.cell];rfl
  have hnm:=iD (fun w=>Z1n s w hs);cases hn:Y1 s with
  | false =>
   have he:Hid ((Call.write s t).errno S=11):=iD (by simp[Call.errno,ho,Call.err,hn]);have hu:Hid ((Call.write s t).turn S=S.tick):=iD (by simp[Call.turn,ho,Call.err,hn]);rw[hn] at hnm;clear hA ho htt hd1 hB1' hB2' hn;go_wp2_with fail;refine (hnm.out _).mono ?_;rintro e w' ⟨rfl,rfl⟩;go_wp2;go_ret;rw[hu.out];exact⟨Xl he.out.symm,hend.out _ (lB _ _)⟩
  | true =>
   rw[hn] at hnm;have hM:=hd1.now;have c0:w1.cell? ⟨g,0,none⟩=some (.map (some bn)):=by rw[hd1.blk.cell];rfl
   have c3:w1.cell? ⟨g,3,none⟩=some (.int .i64 S.room):=by rw[hd1.blk.cell];show some (Value.int .i64 S.tick.room)=_;rw[Z1o]
   rw[J0] at hM;have hs80:s.length<=80:=by simp[Y1] at hn;exact hn.2
   have q0:=fun s'=>Ky c0 s';have q1:=fun s'=>Ky k1 s';have hlook:∀ s':X1 w1,(lV 61 (.map (some bn)) (Z0 s) true).run lA s'.1=.ok (.tuple #[Z0 (fS S.now s),.bool (Zw S.now s)]) s'.1:=fun s'=>(hM.over s').look (Qi hs80);have hdoes:=iD (Z62 g bn bs v S.tick (.write s t));have htl:=hM.text_le (Qi hs80);have hsum:Yx S.now<=16777216:=by have:=hA.sum;have:=hA.room1;omega
   have hxs:(fS S.now s).length<=Yx S.now:=by have:=Z0w (k:=s) hA.now;omega
   have hfew:=hA.few;have hr0:=hA.room0;have hr1:=hA.room1;obtain⟨x,hx⟩:∃ x,x=fS S.now s:=⟨_,rfl⟩;obtain⟨hb,hhb⟩:∃ hb,hb=Zw S.now s:=⟨_,rfl⟩;obtain⟨m,hm⟩:∃ m,m=Yx S.now:=⟨_,rfl⟩;obtain⟨n,hnn⟩:∃ n,n=Zs S.now:=⟨_,rfl⟩;obtain⟨r,hr⟩:∃ r,r=S.room:=⟨_,rfl⟩;rw[<-hx,<-hhb] at hlook;rw[<-hx,<-hm] at hxs;rw[<-hx] at htl;rw[<-hm] at hsum;rw[<-hnn] at hfew;rw[<-hr] at hr0 hr1 c3;have hfb:Hid (Kw S.tick s t=(decide (r - (t.length:Int)<(m:Int) - (x.length:Int)) || decide (600<n+(if hb then 0 else 1)))):=iD (by rw[hr,hm,hx,hnn,hhb];unfold Kw;rw[J0,Z1o]);have hsz:Hid (∀ s':X1 w1,Calls lA 118 #[.map (some bn)] s'.1 fun e w'=>e=.returned (.int .i64 (m:Int))/\Below s'.1.heap.size s'.1 w'):=iD (fun s'=>by rw[hm];exact Zjc s'.1 bn S.now (hM.over s') (by omega));have hln:Hid (∀ s':X1 w1,s'.1.ownsMap lA 9 (plainElem (H:=Unit) lA 9) bn n S.now):=iD (fun s'=>by rw[hnn];exact hM.over s');have hln':Hid (lL S.now=n):=iD hnn.symm;replace hx:=iD hx;replace hhb:=iD hhb;replace hm:=iD hm;replace hnn:=iD hnn;replace hr:=iD hr;replace hd1:=iD hd1;replace hB1':=iD hB1';replace hB2':=iD hB2';replace htt:=iD htt;replace htl:=iD htl;replace ho:=iD ho;replace hM:=iD hM;have hN:=iD hn;have q2:=fun s'=>Ky k2 s';have q3:=fun s'=>Ky c3 s';have e1:IntKind.i64.wrap ((m:Int) - (x.length:Int))=(m:Int) - (x.length:Int):=lQ _ (by omega);have e2:IntKind.i64.wrap (r - (t.length:Int))=r - (t.length:Int):=lQ _ (by omega);clear hA c0 c3 hn;cases hb with
   | true =>
    go_wp2_with fail;refine (hnm.out _).mono ?_;rintro e w' ⟨rfl,rfl⟩;go_wp2_with fail;clear k1 k2;haveI:=Qt w1;refine Kj (by kernel_rfl) (by kernel_rfl) ?_;repeat (first | go_big_quiet_step (fail))
    refine lC ?_;rintro _ ⟨s6,rfl⟩;have q0':=q0 s6;go_wp2_with (at_len;refine wpList_len_own _ rfl (.tmp 31) 61 rfl 9 9 underlying61 (plainElem (H:=Unit) lA 9) bn n S.now rfl (hln.out s6) ?_;rw[hln'.out];go_frame);have p0:=fun s':X1 s6.1=>Ky (q0 s6) s';have p2:=fun s':X1 s6.1=>Ky (q2 s6) s';have p3:=fun s':X1 s6.1=>Ky (q3 s6) s';have hsz':Hid (∀ s':X1 s6.1,Calls lA 118 #[.map (some bn)] s'.1 fun e w'=>e=.returned (.int .i64 (m:Int))/\Below s'.1.heap.size s'.1 w'):=iD (fun s'=>hsz.out ⟨s'.1,s6.2.trans (s'.2.mono s6.2.size)⟩);clear q0 q1 q2 q3 hlook hsz q0';haveI:=Qt s6.1;unfold Z0 at p2 ⊢;by_cases hc:r - (t.length:Int)<(m:Int) - (x.length:Int)
    ·have d1:decide (r - (t.length:Int)<(m:Int) - (x.length:Int))=true:=by simpa using hc
     have hF:Hid (Kw S.tick s t=true):=iD (by rw[hfb.out,d1];rfl);clear hc;refine Kj (by kernel_rfl) (by kernel_rfl) ?_;repeat (first | go_big_quiet_step (first | (go_at_call 118;exact Vq _ (hsz'.out _))))
     refine lC ?_;rintro _ ⟨s7,rfl⟩;go_wp2;go_ret;refine⟨Xl (by simp[Call.errno,ho.out,Call.err,hN.out,hF.out]),?_⟩;rw[show (Call.write s t).turn S=S.tick from by simp[Call.turn,ho.out,Call.err,hN.out,hF.out]];exact hend.out _ (s6.2.trans (s7.2.mono s6.2.size))
    ·have d1:decide (r - (t.length:Int)<(m:Int) - (x.length:Int))=false:=by simpa using hc
     have htr:Hid (t.length<=16777216):=iD (by omega);clear hc;by_cases hd:600<n
     ·have d2:decide ((600:Int)<(n:Int))=true:=by simp;omega
      have hF:Hid (Kw S.tick s t=true):=iD (by rw[hfb.out,d1];simp;omega);clear hd;refine Kj (by kernel_rfl) (by kernel_rfl) ?_;repeat (first | go_big_quiet_step (first | (go_at_call 118;exact Vq _ (hsz'.out _))))
      refine lC ?_;rintro _ ⟨s7,rfl⟩;go_wp2;go_ret;refine⟨Xl (by simp[Call.errno,ho.out,Call.err,hN.out,hF.out]),?_⟩;rw[show (Call.write s t).turn S=S.tick from by simp[Call.turn,ho.out,Call.err,hN.out,hF.out]];exact hend.out _ (s6.2.trans (s7.2.mono s6.2.size))
     ·have d2:decide ((600:Int)<(n:Int))=false:=by simp;omega
      have hF:Hid (Kw S.tick s t=false):=iD (by rw[hfb.out,d1];simp;omega);clear hd;refine Kj (by kernel_rfl) (by kernel_rfl) ?_;repeat (first | go_big_quiet_step (first | (go_at_call 118;exact Vq _ (hsz'.out _))))
      refine lC ?_;rintro _ ⟨s7,rfl⟩;have hb7:Below w1.heap.size w1 s7.1:=s6.2.trans (s7.2.mono s6.2.size);have hB1q:=hB1'.out.below hb7 hB1'.out.lt;have hB2q:=hB2'.out.below hb7 hB2'.out.lt;have hd7:=hd1.out.below hb7;replace hb7:=iD hb7;replace hB1q:=iD hB1q;replace hB2q:=iD hB2q;replace hd7:=iD hd7;go_wp2_with fail;refine (hdoes.out _ _ hd7.out ⟨_,_,rfl,hB2q.out,hB1q.out⟩ ⟨hs80,htr.out⟩ (by rw[J0,<-hnn.out];omega) (by rw[Om];exact hA'.out.few2)).mono ?_;rintro e w8 ⟨rfl,hD8⟩;replace hD8:=iD hD8;go_wp2;go_ret;refine⟨Xl (by simp[Call.errno,ho.out,Call.err,hN.out,hF.out]),?_⟩;rw[show (Call.write s t).turn S=S.tick.does (.write s t) from by simp[Call.turn,ho.out,Call.err,hN.out,hF.out,Call.done]];exact Yt.then (htt.out.trans (Touch.ofBelow (L:=Zh g bn bs v) hb7.out) (fun i hi=>.inl hi)) (fun i hi=>.inl hi) hD8.out.turned
   | false =>
    go_wp2_with fail;refine (hnm.out _).mono ?_;rintro e w' ⟨rfl,rfl⟩;go_wp2_with fail;clear k1 k2;haveI:=Qt w1;refine Kj (by kernel_rfl) (by kernel_rfl) ?_;repeat (first | go_big_quiet_step (fail))
    refine lC ?_;rintro _ ⟨s6,rfl⟩;have q0':=q0 s6;go_wp2_with (at_len;refine wpList_len_own _ rfl (.tmp 31) 61 rfl 9 9 underlying61 (plainElem (H:=Unit) lA 9) bn n S.now rfl (hln.out s6) ?_;rw[hln'.out];go_frame);have p0:=fun s':X1 s6.1=>Ky (q0 s6) s';have p2:=fun s':X1 s6.1=>Ky (q2 s6) s';have p3:=fun s':X1 s6.1=>Ky (q3 s6) s';have hsz':Hid (∀ s':X1 s6.1,Calls lA 118 #[.map (some bn)] s'.1 fun e w'=>e=.returned (.int .i64 (m:Int))/\Below s'.1.heap.size s'.1 w'):=iD (fun s'=>hsz.out ⟨s'.1,s6.2.trans (s'.2.mono s6.2.size)⟩);clear q0 q1 q2 q3 hlook hsz q0';haveI:=Qt s6.1;unfold Z0 at p2 ⊢;by_cases hc:r - (t.length:Int)<(m:Int) - (x.length:Int)
    ·have d1:decide (r - (t.length:Int)<(m:Int) - (x.length:Int))=true:=by simpa using hc
     have hF:Hid (Kw S.tick s t=true):=iD (by rw[hfb.out,d1];rfl);clear hc;refine Kj (by kernel_rfl) (by kernel_rfl) ?_;repeat (first | go_big_quiet_step (first | (go_at_call 118;exact Vq _ (hsz'.out _))))
     refine lC ?_;rintro _ ⟨s7,rfl⟩;go_wp2;go_ret;refine⟨Xl (by simp[Call.errno,ho.out,Call.err,hN.out,hF.out]),?_⟩;rw[show (Call.write s t).turn S=S.tick from by simp[Call.turn,ho.out,Call.err,hN.out,hF.out]];exact hend.out _ (s6.2.trans (s7.2.mono s6.2.size))
    ·have d1:decide (r - (t.length:Int)<(m:Int) - (x.length:Int))=false:=by simpa using hc
     have htr:Hid (t.length<=16777216):=iD (by omega);clear hc;by_cases hd:600<n+1
     ·have d2:decide ((600:Int)<(n:Int)+1)=true:=by simp;omega
      have hF:Hid (Kw S.tick s t=true):=iD (by rw[hfb.out,d1];simp;omega);clear hd;refine Kj (by kernel_rfl) (by kernel_rfl) ?_;repeat (first | go_big_quiet_step (first | (go_at_call 118;exact Vq _ (hsz'.out _))))
      refine lC ?_;rintro _ ⟨s7,rfl⟩;go_wp2;go_ret;refine⟨Xl (by simp[Call.errno,ho.out,Call.err,hN.out,hF.out]),?_⟩;rw[show (Call.write s t).turn S=S.tick from by simp[Call.turn,ho.out,Call.err,hN.out,hF.out]];exact hend.out _ (s6.2.trans (s7.2.mono s6.2.size))
     ·have d2:decide ((600:Int)<(n:Int)+1)=false:=by simp;omega
      have hF:Hid (Kw S.tick s t=false):=iD (by rw[hfb.out,d1];simp;omega);clear hd;refine Kj (by kernel_rfl) (by kernel_rfl) ?_;repeat (first | go_big_quiet_step (first | (go_at_call 118;exact Vq _ (hsz'.out _))))
      refine lC ?_;rintro _ ⟨s7,rfl⟩;have hb7:Below w1.heap.size w1 s7.1:=s6.2.trans (s7.2.mono s6.2.size);have hB1q:=hB1'.out.below hb7 hB1'.out.lt;have hB2q:=hB2'.out.below hb7 hB2'.out.lt;have hd7:=hd1.out.below hb7;replace hb7:=iD hb7;replace hB1q:=iD hB1q;replace hB2q:=iD hB2q;replace hd7:=iD hd7;go_wp2_with fail;refine (hdoes.out _ _ hd7.out ⟨_,_,rfl,hB2q.out,hB1q.out⟩ ⟨hs80,htr.out⟩ (by rw[J0,<-hnn.out];omega) (by rw[Om];exact hA'.out.few2)).mono ?_;rintro e w8 ⟨rfl,hD8⟩;replace hD8:=iD hD8;go_wp2;go_ret;refine⟨Xl (by simp[Call.errno,ho.out,Call.err,hN.out,hF.out]),?_⟩;rw[show (Call.write s t).turn S=S.tick.does (.write s t) from by simp[Call.turn,ho.out,Call.err,hN.out,hF.out,Call.done]];exact Yt.then (htt.out.trans (Touch.ofBelow (L:=Zh g bn bs v) hb7.out) (fun i hi=>.inl hi)) (fun i hi=>.inl hi) hD8.out.turned
end Go.Proofs.YtfdimggmljkkbaaGreatDoor
end
section
namespace Go.Proofs.YtfdimggmljkkbaaGreatDoor
open Go.RowKit Go.Maps Go.Sort
theorem Zaj(g bn bs:Nat)(v:Value)(S:DS)(s:List UInt8)(w:World)(h:DiskAt w g bn bs v S)(hA:Asked S)(hs:s.length<=140737488355328) :
  Calls lA 65 #[.pointer (some ⟨g,0,none⟩),Z0 s] w fun e w'=>e=.returned (.int .i64 ((Call.remove s).errno S))/\Yt w (Zh g bn bs v) g ((Call.remove s).turn S) w':=by
 have hbl:Below w.heap.size w (w.alloc (.cells #[Z0 s] 9)):=bL;have hB1:Blk (w.alloc (.cells #[Z0 s] 9)) w.heap.size 9 [Z0 s]:=Z63 s;have hd0:=h.below hbl;have hA':=iD hA;replace h:=iD h;go_enter func65,ntmps65;go_wp2_with fail;generalize (w.alloc (.cells #[Z0 s] 9))=w0 at hbl hB1 hd0 ⊢;refine (Z3d g bn bs v S w0 hd0 hA.fuse0 hA.fuse1).mono ?_;rintro e w1 ⟨rfl,hd1,ht1,hz1⟩;have hB1':=hB1.touch ht1 (by have:=hB1.ne_ hd0.blk (by decide);simpa using this);have htt:Touch (Zh g bn bs v) w w1:=(Touch.ofBelow hbl).trans ht1 (fun i hi=>.inl (by have : i=g:=(by simpa using hi);rw[this];simp[Zh]));have hend:∀ w',Below w1.heap.size w1 w'->Yt w (Zh g bn bs v) g S.tick w':=fun w' hb=>Yt.then htt (fun i hi=>.inl hi) (Yt.same ⟨bn,bs,v,hd1,rfl⟩ hb);replace hend:=iD hend;clear hbl hB1 hd0 ht1 hz1;cases ho:S.tick.off with
 | true =>
  have hp:Hid (S.powE=15):=iD (by simp[DS.powE,ho]);have he:Hid ((Call.remove s).errno S=15):=iD (by simp[Call.errno,ho]);have hu:Hid ((Call.remove s).turn S=S.tick):=iD (by simp[Call.turn,ho]);rw[hp.out];clear hA ho htt hd1 hB1';go_wp2;go_ret;rw[hu.out];exact⟨Xl he.out.symm,hend.out _ (lB _ _)⟩
 | false =>
  have hp:Hid (S.powE=0):=iD (by simp[DS.powE,ho]);rw[hp.out];have k1:w1.cell? ⟨w.heap.size,0,none⟩=some (Z0 s):=by rw[hB1'.cell];rfl
  have hnm:=iD (fun w=>Z1n s w hs);cases hn:Y1 s with
  | false =>
   have he:Hid ((Call.remove s).errno S=11):=iD (by simp[Call.errno,ho,Call.err,hn]);have hu:Hid ((Call.remove s).turn S=S.tick):=iD (by simp[Call.turn,ho,Call.err,hn]);rw[hn] at hnm;clear hA ho htt hd1 hB1' hn;go_wp2_with fail;refine (hnm.out _).mono ?_;rintro e w' ⟨rfl,rfl⟩;go_wp2;go_ret;rw[hu.out];exact⟨Xl he.out.symm,hend.out _ (lB _ _)⟩
  | true =>
   rw[hn] at hnm;have hM:=hd1.now;have c0:w1.cell? ⟨g,0,none⟩=some (.map (some bn)):=by rw[hd1.blk.cell];rfl
   rw[J0] at hM;have hs80:s.length<=80:=by simp[Y1] at hn;exact hn.2
   have q0:=fun s'=>Ky c0 s';have q1:=fun s'=>Ky k1 s';have hlook:∀ s':X1 w1,(lV 61 (.map (some bn)) (Z0 s) true).run lA s'.1=.ok (.tuple #[Z0 (fS S.now s),.bool (Zw S.now s)]) s'.1:=fun s'=>(hM.over s').look (Qi hs80);have hdoes:=iD (Z62 g bn bs v S.tick (.remove s));have hfew:=hA.few;obtain⟨x,hx⟩:∃ x,x=fS S.now s:=⟨_,rfl⟩;obtain⟨hb,hhb⟩:∃ hb,hb=Zw S.now s:=⟨_,rfl⟩;rw[<-hx,<-hhb] at hlook;replace hx:=iD hx;replace hhb:=iD hhb;replace hd1:=iD hd1;replace hB1':=iD hB1';replace htt:=iD htt;replace ho:=iD ho;replace hfew:=iD hfew;have hN:=iD hn;clear hA c0 hM hn;cases hb with
   | true =>
    go_wp2_with fail;refine (hnm.out _).mono ?_;rintro e w' ⟨rfl,rfl⟩;go_wp2_with fail;haveI:=Qt w1;refine Kj (by kernel_rfl) (by kernel_rfl) ?_;repeat (first | go_big_quiet_step (fail))
    refine lC ?_;rintro _ ⟨s7,rfl⟩;have hb7:Below w1.heap.size w1 s7.1:=s7.2;have hB1q:=hB1'.out.below hb7 hB1'.out.lt;have hd7:=hd1.out.below hb7;replace hb7:=iD hb7;replace hB1q:=iD hB1q;replace hd7:=iD hd7;go_wp2_with fail;refine (hdoes.out _ _ hd7.out ⟨_,rfl,hB1q.out⟩ hs80 (by rw[J0];have:=hfew.out;omega) (by rw[Om];exact hA'.out.few2)).mono ?_;rintro e w8 ⟨rfl,hD8⟩;replace hD8:=iD hD8;go_wp2;go_ret;refine⟨Xl (by simp[Call.errno,ho.out,Call.err,hN.out,J0,<-hhb.out]),?_⟩;rw[show (Call.remove s).turn S=S.tick.does (.remove s) from by simp[Call.turn,ho.out,Call.err,hN.out,J0,<-hhb.out,Call.done]];exact Yt.then (htt.out.trans (Touch.ofBelow (L:=Zh g bn bs v) hb7.out) (fun i hi=>.inl hi)) (fun i hi=>.inl hi) hD8.out.turned
   | false =>
    go_wp2_with fail;refine (hnm.out _).mono ?_;rintro e w' ⟨rfl,rfl⟩;go_wp2_with fail;haveI:=Qt w1;refine Kj (by kernel_rfl) (by kernel_rfl) ?_;repeat (first | go_big_quiet_step (fail))
    refine lC ?_;rintro _ ⟨s7,rfl⟩;go_wp2;go_ret;refine⟨Xl (by simp[Call.errno,ho.out,Call.err,hN.out,J0,<-hhb.out]),?_⟩;rw[show (Call.remove s).turn S=S.tick from by simp[Call.turn,ho.out,Call.err,hN.out,J0,<-hhb.out]];exact hend.out _ s7.2
theorem Zjk(g bn bs:Nat)(v:Value)(S:DS)(s t:List UInt8)(w:World)(h:DiskAt w g bn bs v S)(hA:Asked S)(hs:s.length<=140737488355328)(ht:t.length<=140737488355328) :
  Calls lA 62 #[.pointer (some ⟨g,0,none⟩),Z0 s,Z0 t] w fun e w'=>e=.returned (.int .i64 ((Call.rename s t).errno S))/\Yt w (Zh g bn bs v) g ((Call.rename s t).turn S) w':=by
 have hbl:Below w.heap.size w ((w.alloc (.cells #[Z0 s] 9)).alloc (.cells #[Z0 t] 9)):=bL.alloc (by simp) _;have hB1:Blk ((w.alloc (.cells #[Z0 s] 9)).alloc (.cells #[Z0 t] 9)) w.heap.size 9 [Z0 s]:=(Z63 s).alloc _;have hB2:Blk ((w.alloc (.cells #[Z0 s] 9)).alloc (.cells #[Z0 t] 9)) (w.heap.size+1) 9 [Z0 t]:=Blk.new_at (cs:=[Z0 t]) (by simp);have hd0:=h.below hbl;have hA':=iD hA;replace h:=iD h;go_enter func62,ntmps62;go_wp2_with fail;generalize ((w.alloc (.cells #[Z0 s] 9)).alloc (.cells #[Z0 t] 9))=w0 at hbl hB1 hB2 hd0 ⊢;refine (Z3d g bn bs v S w0 hd0 hA.fuse0 hA.fuse1).mono ?_;rintro e w1 ⟨rfl,hd1,ht1,hz1⟩;have hB1':=hB1.touch ht1 (by have:=hB1.ne_ hd0.blk (by decide);simpa using this);have hB2':=hB2.touch ht1 (by have:=hB2.ne_ hd0.blk (by decide);simpa using this);have htt:Touch (Zh g bn bs v) w w1:=(Touch.ofBelow hbl).trans ht1 (fun i hi=>.inl (by have : i=g:=(by simpa using hi);rw[this];simp[Zh]));have hend:∀ w',Below w1.heap.size w1 w'->Yt w (Zh g bn bs v) g S.tick w':=fun w' hb=>Yt.then htt (fun i hi=>.inl hi) (Yt.same ⟨bn,bs,v,hd1,rfl⟩ hb);replace hend:=iD hend;clear hbl hB1 hB2 hd0 ht1 hz1;cases ho:S.tick.off with
 | true =>
  have hp:Hid (S.powE=15):=iD (by simp[DS.powE,ho]);have he:Hid ((Call.rename s t).errno S=15):=iD (by simp[Call.errno,ho]);have hu:Hid ((Call.rename s t).turn S=S.tick):=iD (by simp[Call.turn,ho]);rw[hp.out];clear hA ho htt hd1 hB1' hB2';go_wp2;go_ret;rw[hu.out];exact⟨Xl he.out.symm,hend.out _ (lB _ _)⟩
 | false =>
  have hp:Hid (S.powE=0):=iD (by simp[DS.powE,ho]);rw[hp.out];have k1:w1.cell? ⟨w.heap.size,0,none⟩=some (Z0 s):=by rw[hB1'.cell];rfl
  have k2:w1.cell? ⟨w.heap.size+1,0,none⟩=some (Z0 t):=by rw[hB2'.cell];rfl
  have hnm2:=iD (fun w=>Z1n t w ht);have hnm:=iD (fun w=>Z1n s w hs);cases hn:Y1 s with
  | false =>
   have he:Hid ((Call.rename s t).errno S=11):=iD (by simp[Call.errno,ho,Call.err,hn]);have hu:Hid ((Call.rename s t).turn S=S.tick):=iD (by simp[Call.turn,ho,Call.err,hn]);rw[hn] at hnm;clear hA ho htt hd1 hB1' hB2' hn;go_wp2_with fail;refine (hnm.out _).mono ?_;rintro e w' ⟨rfl,rfl⟩;go_wp2;go_ret;rw[hu.out];exact⟨Xl he.out.symm,hend.out _ (lB _ _)⟩
  | true =>
   rw[hn] at hnm;cases hn2:Y1 t with
   | false =>
    have he:Hid ((Call.rename s t).errno S=11):=iD (by simp[Call.errno,ho,Call.err,hn,hn2]);have hu:Hid ((Call.rename s t).turn S=S.tick):=iD (by simp[Call.turn,ho,Call.err,hn,hn2]);rw[hn2] at hnm2;clear hA ho htt hd1 hB1' hB2' hn hn2;go_wp2_with fail;refine (hnm.out _).mono ?_;rintro e w' ⟨rfl,rfl⟩;go_wp2_with fail;refine (hnm2.out _).mono ?_;rintro e w' ⟨rfl,rfl⟩;go_wp2;go_ret;rw[hu.out];exact⟨Xl he.out.symm,hend.out _ (lB _ _)⟩
   | true =>
    rw[hn2] at hnm2;have hM:=hd1.now;have c0:w1.cell? ⟨g,0,none⟩=some (.map (some bn)):=by rw[hd1.blk.cell];rfl
    rw[J0] at hM;have hs80:s.length<=80:=by simp[Y1] at hn;exact hn.2
    have ht80:t.length<=80:=by simp[Y1] at hn2;exact hn2.2
    have q0:=fun s'=>Ky c0 s';have q1:=fun s'=>Ky k1 s';have hlook:∀ s':X1 w1,(lV 61 (.map (some bn)) (Z0 s) true).run lA s'.1=.ok (.tuple #[Z0 (fS S.now s),.bool (Zw S.now s)]) s'.1:=fun s'=>(hM.over s').look (Qi hs80);have hdoes:=iD (Z62 g bn bs v S.tick (.rename s t));have hfew:=hA.few;obtain⟨x,hx⟩:∃ x,x=fS S.now s:=⟨_,rfl⟩;obtain⟨hb,hhb⟩:∃ hb,hb=Zw S.now s:=⟨_,rfl⟩;rw[<-hx,<-hhb] at hlook;replace hx:=iD hx;replace hhb:=iD hhb;replace hd1:=iD hd1;replace hB1':=iD hB1';replace hB2':=iD hB2';replace htt:=iD htt;replace ho:=iD ho;replace hfew:=iD hfew;have hN:=iD hn;have hN2:=iD hn2;clear hA c0 hM hn hn2;cases hb with
    | true =>
     go_wp2_with fail;refine (hnm.out _).mono ?_;rintro e w' ⟨rfl,rfl⟩;go_wp2_with fail;refine (hnm2.out _).mono ?_;rintro e w' ⟨rfl,rfl⟩;go_wp2_with fail;haveI:=Qt w1;refine Kj (by kernel_rfl) (by kernel_rfl) ?_;repeat (first | go_big_quiet_step (fail))
     refine lC ?_;rintro _ ⟨s7,rfl⟩;have hb7:Below w1.heap.size w1 s7.1:=s7.2;have hB1q:=hB1'.out.below hb7 hB1'.out.lt;have hB2q:=hB2'.out.below hb7 hB2'.out.lt;have hd7:=hd1.out.below hb7;replace hb7:=iD hb7;replace hB1q:=iD hB1q;replace hB2q:=iD hB2q;replace hd7:=iD hd7;go_wp2_with fail;refine (hdoes.out _ _ hd7.out ⟨_,_,rfl,hB1q.out,hB2q.out⟩ ⟨hs80,ht80⟩ (by rw[J0];have:=hfew.out;omega) (by rw[Om];exact hA'.out.few2)).mono ?_;rintro e w8 ⟨rfl,hD8⟩;replace hD8:=iD hD8;go_wp2;go_ret;refine⟨Xl (by simp[Call.errno,ho.out,Call.err,hN.out,hN2.out,J0,<-hhb.out]),?_⟩;rw[show (Call.rename s t).turn S=S.tick.does (.rename s t) from by simp[Call.turn,ho.out,Call.err,hN.out,hN2.out,J0,<-hhb.out,Call.done]];exact Yt.then (htt.out.trans (Touch.ofBelow (L:=Zh g bn bs v) hb7.out) (fun i hi=>.inl hi)) (fun i hi=>.inl hi) hD8.out.turned
    | false =>
     go_wp2_with fail;refine (hnm.out _).mono ?_;rintro e w' ⟨rfl,rfl⟩;go_wp2_with fail;refine (hnm2.out _).mono ?_;rintro e w' ⟨rfl,rfl⟩;go_wp2_with fail;haveI:=Qt w1;refine Kj (by kernel_rfl) (by kernel_rfl) ?_;repeat (first | go_big_quiet_step (fail))
     refine lC ?_;rintro _ ⟨s7,rfl⟩;go_wp2;go_ret;refine⟨Xl (by simp[Call.errno,ho.out,Call.err,hN.out,hN2.out,J0,<-hhb.out]),?_⟩;rw[show (Call.rename s t).turn S=S.tick from by simp[Call.turn,ho.out,Call.err,hN.out,hN2.out,J0,<-hhb.out]];exact hend.out _ s7.2
end Go.Proofs.YtfdimggmljkkbaaGreatDoor
end
section
namespace Go.Proofs.YtfdimggmljkkbaaGreatDoor
open Go.RowKit Go.Maps Go.Sort
theorem Zak(w:World):w.ownsRow 0 224 1 (.slice none 0 0) 0 []:=⟨rfl,.inl ⟨rfl,rfl⟩⟩
theorem Zal(g bn bs:Nat)(v:Value)(S:DS)(w:World)(h:DiskAt w g bn bs v S)(hF:S.Fit) :
  Calls lA 60 #[.pointer (some ⟨g,0,none⟩)] w fun e w'=>e=.returned (.int .i64 (Call.sync.errno S))/\Yt w (Zh g bn bs v) g (Call.sync.turn S) w':=by
 have hpw:=iD (Z3d g bn bs v S w h hF.fuse0 hF.fuse1);clear h hF;go_enter func60,ntmps60;go_wp2_with fail;refine hpw.out.mono ?_;rintro e w1 ⟨rfl,hd1,ht1,hz1⟩;have htt:Touch (Zh g bn bs v) w w1:=ht1.mono (fun i hi=>.inl (by have : i=g:=(by simpa using hi);rw[this];simp[Zh]));clear ht1 hz1;cases ho:S.tick.off with
 | true =>
  have hp:Hid (S.powE=15):=iD (by simp[DS.powE,ho]);have he:Hid (Call.sync.errno S=15):=iD (by simp[Call.errno,ho]);have hu:Hid (Call.sync.turn S=S.tick):=iD (by simp[Call.turn,ho]);rw[hp.out];replace hd1:=iD hd1;replace htt:=iD htt;clear ho;go_wp2;go_ret;rw[hu.out];exact⟨Xl he.out.symm,Yt.then htt.out (fun i hi=>.inl hi) (Yt.same ⟨bn,bs,v,hd1.out,rfl⟩ (lB _ _))⟩
 | false =>
  have hp:Hid (S.powE=0):=iD (by simp[DS.powE,ho]);have he:Hid (Call.sync.errno S=0):=iD (by simp[Call.errno,ho,Call.err]);have hu:Hid (Call.sync.turn S={ S.tick with sure:=S.tick.now,pend:=[] }):=iD (by simp[Call.turn,ho,Call.err,Call.done]);rw[hp.out];have c0:w1.cell? ⟨g,0,none⟩=some (.map (some bn)):=by rw[hd1.blk.cell];rfl
  have hcl:=iD (Z5y w1 bn _ hd1.now);replace hd1:=iD hd1;replace htt:=iD htt;clear ho;go_wp2_with fail;refine hcl.out.mono ?_;rintro e w2 ⟨rfl,hm2,hb2⟩;have hd2:=hd1.out.below hb2;have z1:=hd2.blk.frozen 1;have z2:=hd2.blk.frozen 2;have c1:w2.cell? ⟨g,1,none⟩=some (.map (some bs)):=by rw[hd2.blk.cell];rfl
  have c2:w2.cell? ⟨g,2,none⟩=some v:=by rw[hd2.blk.cell];rfl
  have hlt:bn ≠ w1.heap.size:=by have:=hd1.out.now.lt;omega
  have hg1:g<w1.heap.size:=hd1.out.blk.lt;obtain⟨gg,hgg⟩:∃ gg,gg=w1.heap.size:=⟨_,rfl⟩;rw[<-hgg] at hlt hg1 hm2 ⊢;replace hd2:=iD hd2;replace hm2:=iD hm2;replace hb2:=iD hb2;replace hlt:=iD hlt;replace hgg:=iD hgg;clear c0;go_wp2;go_ret;rw[hu.out];refine⟨Xl he.out.symm,?_⟩;have ht2:Touch [g] w2 ((w2.setCell ⟨g,1,none⟩ (.map (some gg))).setCell ⟨g,2,none⟩ (.slice none 0 0)):=(Touch.setCell _ (by simp)).trans (Touch.setCell _ (by simp)) (fun i hi=>.inl hi);refine⟨htt.out.trans ((Touch.ofBelow (L:=Zh g bn bs v) hb2.out).trans ht2 (fun i hi=>.inl (by have : i=g:=(by simpa using hi);rw[this];simp[Zh]))) (fun i hi=>.inl hi),Zh g bn gg (.slice none 0 0),⟨bn,gg,.slice none 0 0,⟨(hd2.out.blk.set_ 1 _).set_ 2 _,hd2.out.now.touch ht2 (by simpa using hd2.out.gne bn (by simp)),hm2.out.touch ht2 (by simp;omega),hlt.out,[],Zak _,rfl,fun i o v h1 _=>by simp at h1⟩,rfl⟩,?_⟩;intro i hi;rcases DiskAt.mem_foot hi with rfl | rfl | rfl | e
  ·simp[Zh]
  ·simp[Zh]
  ·right;rw[hgg.out];exact htt.out.size
  ·cases e
theorem Z3f{a b:Value}{c d:Value}(h1:a=c)(h2:b=d):lW (.tuple #[a,b])=.returned (.tuple #[c,d]):=by rw[h1,h2]
theorem Zjl(g bn bs:Nat)(v:Value)(S:DS)(s:List UInt8)(w:World)(h:DiskAt w g bn bs v S)(hs:s.length<=140737488355328) :
  Calls lA 141 #[.pointer (some ⟨g,0,none⟩),Z0 s] w fun e w'=>e=.returned (.tuple #[Z0 (S.readT s),.int .i64 (S.readE s)])/\w=w':=by
 have hpw:=iD (Zag g bn bs v S w h);have hnm:=iD (Z1n s w hs);have c0:w.cell? ⟨g,0,none⟩=some (.map (some bn)):=by rw[h.blk.cell];rfl
 cases ho:S.off with
 | true =>
  have hp:Hid (S.powR=15):=iD (by simp[DS.powR,ho]);have he:Hid (S.readE s=15):=iD (by simp[DS.readE,ho]);have hu:Hid (S.readT s=[]):=iD (by simp[DS.readT,ho]);clear h ho;go_enter func141,ntmps141;go_wp2_with fail;refine hpw.out.mono ?_;rintro e w1 ⟨rfl,rfl⟩;rw[hp.out];go_wp2;go_ret2;exact⟨Z3f (by rw[hu.out];rfl) (by rw[he.out];rfl),rfl⟩
 | false =>
  have hp:Hid (S.powR=0):=iD (by simp[DS.powR,ho]);cases hn:Y1 s with
  | false =>
   have he:Hid (S.readE s=11):=iD (by simp[DS.readE,ho,hn]);have hu:Hid (S.readT s=[]):=iD (by simp[DS.readT,ho,hn]);rw[hn] at hnm;clear h ho hn;go_enter func141,ntmps141;go_wp2_with fail;refine hpw.out.mono ?_;rintro e w1 ⟨rfl,rfl⟩;rw[hp.out];go_wp2_with fail;refine hnm.out.mono ?_;rintro e w1 ⟨rfl,rfl⟩;go_wp2;go_ret2;exact⟨Z3f (by rw[hu.out];rfl) (by rw[he.out];rfl),rfl⟩
  | true =>
   have hs80:s.length<=80:=by simp[Y1] at hn;exact hn.2
   have hlook:=h.now.look (Qi hs80);rw[hn] at hnm;cases hh:Zw S.now s with
   | false =>
    have he:Hid (S.readE s=5):=iD (by simp[DS.readE,ho,hn,hh]);have hu:Hid (S.readT s=[]):=iD (by simp[DS.readT,ho,hn,Z8k hh]);rw[hh] at hlook;clear h ho hn hh;go_enter func141,ntmps141;go_wp2_with fail;refine hpw.out.mono ?_;rintro e w1 ⟨rfl,rfl⟩;rw[hp.out];go_wp2_with fail;refine hnm.out.mono ?_;rintro e w1 ⟨rfl,rfl⟩;go_wp2;go_ret2;exact⟨Z3f (by rw[hu.out];rfl) (by rw[he.out];rfl),rfl⟩
   | true =>
    have he:Hid (S.readE s=0):=iD (by simp[DS.readE,ho,hn,hh]);have hu:Hid (S.readT s=fS S.now s):=iD (by simp[DS.readT,ho,hn]);rw[hh] at hlook;clear h ho hn hh;go_enter func141,ntmps141;go_wp2_with fail;refine hpw.out.mono ?_;rintro e w1 ⟨rfl,rfl⟩;rw[hp.out];go_wp2_with fail;refine hnm.out.mono ?_;rintro e w1 ⟨rfl,rfl⟩;go_wp2;go_ret2;exact⟨Z3f (by rw[hu.out];rfl) (by rw[he.out];rfl),rfl⟩
def NewTo(w:World)(room:Int)(e:Ending)(w':World):Prop:=∃ g L,e=.returned (.tuple #[.pointer (some ⟨g,0,none⟩),.int .i64 0])/\J4 w' L g (DS.new room)/\(∀ i ∈ L,w.heap.size<=i)/\Below w.heap.size w w'
theorem Zjm(room:Int)(w:World)(h0:0<=room)(h1:room<=16777216):Calls lA 206 #[.int .i64 room] w (NewTo w room):=by
 have hmm:=@run_makeMap lA;go_enter func206,ntmps206;go_wp2;go_ret2;have m1:Zq (w.alloc (lR #[] 0)) w.heap.size K7:=Zq.of (World.ownsMap_made w _ _ _);have m2:Zq ((w.alloc (lR #[] 0)).alloc (lR #[] 0)) (w.heap.size+1) K7:=by
  have:=Zq.of (World.ownsMap_made (w.alloc (lR #[] 0)) lA 9 (plainElem (H:=Unit) lA 9));simpa[K7] using this
 refine⟨w.heap.size+1+1,Zh (w.heap.size+1+1) w.heap.size (w.heap.size+1) (.slice none 0 0),rfl,⟨_,_,_,⟨Blk.new_at (cs:=Uf w.heap.size (w.heap.size+1) (.slice none 0 0) (DS.new room)) (by simp),?_,?_,by omega,[],Zak _,rfl,fun i o v h1 _=>by simp[DS.new] at h1⟩,rfl⟩,?_,?_⟩
 ·exact (m1.touch (L:=[]) (Touch.alloc _) (by simp)).touch (L:=[]) (Touch.alloc _) (by simp)
 ·exact m2.touch (L:=[]) (Touch.alloc _) (by simp)
 ·intro i hi;rcases DiskAt.mem_foot hi with rfl | rfl | rfl | e
  ·omega
  ·omega
  ·omega
  ·cases e
 ·exact ((bL.alloc (by simp) _).alloc (by simp;omega) _)
end Go.Proofs.YtfdimggmljkkbaaGreatDoor
end
section
namespace Go.Proofs.YtfdimggmljkkbaaGreatDoor
open Go.RowKit Go.Maps Go.Sort
theorem below_setRow{B:Nat}{w w':World}(h:Below B w w'){g:Nat}(hg:B<=g)(c:Array Value):Below B w (w'.setRow g c) :=
 h.trans ⟨rfl,rfl,rfl,by simp[World.setRow],fun k hk=>setRow_other w' g k c (by omega)⟩
end Go.Proofs.YtfdimggmljkkbaaGreatDoor
end
end
section
namespace Go.Proofs.YtfdimggmljkkbaaGreatDoor
open Go.Maps
def Vb(D:DM):Prop:=∀ k,Zw D k=true->Y1 k=true
def Z64(os:List DOp)(D:DM):DM:=os.foldl (fun D o=>o.act 1 D) D
def DOp.named:DOp->Prop
 | .write s _=>Y1 s=true
 | .remove _=>True
 | .rename _ t=>Y1 t=true
structure Inv (S:DS) (n:Nat):Prop extends S.Good where
 keys:Vb S.now
 keys':Vb S.sure
 opn:∀ o ∈ S.pend,o.named
 len:S.pend.length<=n
 re:Z64 S.pend S.sure=S.now
theorem Vb.put{D:DM}(h:Vb D){k t:List UInt8}(hk:Y1 k=true):Vb (Zx D k t):=fun q hq=>by
 by_cases e:q=k
 ·rw[e];exact hk
 ·rw[Z4o e] at hq;exact h q hq
theorem Vb.del{D:DM}(h:Vb D){k:List UInt8}:Vb (Xf D k):=fun q hq=>by
 by_cases e:q=k
 ·rw[e,Z8j] at hq;cases hq
 ·rw[Zf9 e] at hq;exact h q hq
theorem Vb.act{D:DM}(h:Vb D){o:DOp}(ho:o.named)(k:Int):Vb (o.act k D):=by
 cases o with
 | write s t=>exact h.put ho
 | remove s=>exact h.del
 | rename s t =>
  simp only[DOp.act];split
  ·exact (h.del).put ho
  ·exact h
theorem Fit.tick{S:DS}(h:S.Fit):S.tick.Fit:=by
 refine⟨by rw[J0];exact h.now,by rw[Z3e];exact h.sure,by rw[Om];exact h.ops,by rw[Z1o];exact h.room0,by rw[Z1o];exact h.room1,?_,?_⟩
 ·unfold DS.tick;split
  ·exact h.fuse0
  ·show -1<=max (S.fuse - 1) (-1);omega
 ·unfold DS.tick;split
  ·exact h.fuse1
  ·show max (S.fuse - 1) (-1)<=1000000;have:=h.fuse1;omega
theorem Inv.tick{S:DS}{n:Nat}(h:Inv S n):Inv S.tick n:=by
 refine⟨⟨Fit.tick h.toFit,?_,?_,?_⟩,?_,?_,?_,?_,?_⟩
 ·rw[J0,Z1o];exact h.sum
 ·rw[J0];exact h.few
 ·rw[Z3e];exact h.few'
 ·rw[J0];exact h.keys
 ·rw[Z3e];exact h.keys'
 ·rw[Om];exact h.opn
 ·rw[Om];exact h.len
 ·rw[Om,Z3e,J0];exact h.re
theorem Inv.mono{S:DS}{n m:Nat}(h:Inv S n)(hm:n<=m):Inv S m:=⟨h.toGood,h.keys,h.keys',h.opn,lD h.len hm,h.re⟩
theorem Inv.does{S:DS}{n:Nat}(h:Inv S n)(o:DOp)(ho:o.ok)(hn:o.named)(hs:(Yx (o.act 1 S.now):Int)<=S.room)(hf:Zs (o.act 1 S.now)<=600):Inv (S.does o) (n+1):=by
 refine⟨⟨⟨o.act_str h.now 1,h.sure,?_,h.room0,h.room1,h.fuse0,h.fuse1⟩,hs,hf,h.few'⟩,h.keys.act hn 1,h.keys',?_,?_,?_⟩
 ·intro p hp;rcases l1.1 hp with hp | hp
  ·exact h.ops p hp
  ·rw[lF.1 hp];exact ho
 ·intro p hp;rcases l1.1 hp with hp | hp
  ·exact h.opn p hp
  ·rw[lF.1 hp];exact hn
 ·show (S.pend++[o]).length<=n+1;have:=h.len;simp;omega
 ·show Z64 (S.pend++[o]) S.sure=o.act 1 S.now;have:=h.re;unfold Z64 at this ⊢;rw[List.foldl_append,this];rfl
theorem Z3g{s:List UInt8}(h:Y1 s=true):s.length<=80:=by
 simp[Y1] at h;exact h.2
theorem Inv.done{S:DS}{n:Nat}(h:Inv S n)(c:Call)(hc:c.err S=0):Inv (c.done S) (n+1):=by
 cases c with
 | write s t =>
  simp only[Call.err] at hc;by_cases hs:Y1 s=true
  ·rw[if_pos hs] at hc;by_cases hf:Kw S s t=true
   ·rw[if_pos hf] at hc;cases hc
   ·have hff:Kw S s t=false:=by simpa using hf
    unfold Kw at hff;rw[Bool.or_eq_false_iff] at hff;obtain⟨f1,f2⟩:=hff;have f1':¬ (S.room - (t.length:Int)<(Yx S.now:Int) - ((fS S.now s).length:Int)):=by simpa using f1
    have f2':¬ (600<Zs S.now+(if Zw S.now s then 0 else 1)):=of_decide_eq_false f2;have hcut:O5 t 1=t:=by simp[O5]
    have hx:=Z0v (k:=s) (t:=t) h.now;have hd:=Z0w (k:=s) h.now;have hr:=h.room1;refine h.does _ ⟨Z3g hs,by omega⟩ hs ?_ ?_
    ·show (Yx (Zx S.now s (O5 t 1)):Int)<=S.room;rw[hcut];omega
    ·show Zs (Zx S.now s (O5 t 1))<=600;rw[Z4p h.now];split <;> rename_i hh
     ·exact h.few
     ·rw[if_neg hh] at f2';omega
  ·rw[if_neg hs] at hc;cases hc
 | remove s =>
  simp only[Call.err] at hc;by_cases hs:Y1 s=true
  ·have hd:=Z0w (k:=s) h.now;have hsum:=h.sum;refine h.does _ (Z3g hs) trivial ?_ ?_
   ·show (Yx (Xf S.now s):Int)<=S.room;omega
   ·show Zs (Xf S.now s)<=600;exact lD (Z8l h.now) h.few
  ·rw[if_neg hs] at hc;cases hc
 | rename s t =>
  simp only[Call.err] at hc;by_cases hs:(Y1 s && Y1 t)=true
  ·rw[if_pos hs] at hc;by_cases hh:Zw S.now s=true
   ·rw[Bool.and_eq_true] at hs;have hd:=Z0w (k:=s) h.now;have hp:=Z0v (k:=t) (t:=fS S.now s) (h.now.del s);have hsum:=h.sum;have ha:(DOp.rename s t).act 1 S.now=Zx (Xf S.now s) t (fS S.now s):=by simp[DOp.act,hh]
    refine h.does _ ⟨Z3g hs.1,Z3g hs.2⟩ hs.2 ?_ ?_
    ·rw[ha];omega
    ·rw[ha];exact lD (Zfb h.now s t hh) h.few
   ·rw[if_neg hh] at hc;cases hc
  ·rw[if_neg hs] at hc;cases hc
 | sync =>
  refine⟨⟨⟨h.now,h.now,by simp[Call.done],h.room0,h.room1,h.fuse0,h.fuse1⟩,h.sum,h.few,h.few⟩,h.keys,h.keys,by simp[Call.done],by simp[Call.done],rfl⟩
theorem Inv.turn{S:DS}{n:Nat}(h:Inv S n)(c:Call):Inv (c.turn S) (n+1):=by
 unfold Call.turn;split
 ·exact h.tick.mono (by omega)
 ·split
  ·rename_i h2;exact h.tick.done c h2
  ·exact h.tick.mono (by omega)
theorem Inv.new{room:Int}(h0:0<=room)(h1:room<=16777216):Inv (DS.new room) 0:=by
 refine⟨⟨⟨Yl.nil,Yl.nil,by simp[DS.new],h0,h1,by simp[DS.new],by simp[DS.new]⟩,?_,?_,?_⟩,?_,?_,by simp[DS.new],by simp[DS.new],rfl⟩
 ·show ((Yx K7:Nat):Int)<=room;simp[Yx,K7,fEs];exact h0
 ·show Zs K7<=600;simp[Zs,K7,lL]
 ·show Zs K7<=600;simp[Zs,K7,lL]
 ·intro k hk;have : Zw K7 k=true:=hk;simp[Zw,K7,lO] at this
 ·intro k hk;have : Zw K7 k=true:=hk;simp[Zw,K7,lO] at this
theorem Inv.asked{S:DS}{n:Nat}(h:Inv S n)(hn:n<4398046511104):Asked S:=⟨h.toGood,Nat.lt_of_le_of_lt h.len hn⟩
end Go.Proofs.YtfdimggmljkkbaaGreatDoor
end
section
set_option maxRecDepth 100000
set_option maxHeartbeats 8000000
open Go.Lib renaming hid → iD
open Go.Proofs.Tryz
section
section
namespace Go.Proofs.YtfdimggmljkkbaaGreatDoor
open Go.RowKit
def Zc:Str:=[114,101,102,115,46,110,101,119]
def Zt:Str:=[114,101,102,115]
def openS(S:DS):DS:=(Call.remove Zc).turn S
def Z0f(S:DS):Int :=
 if (Call.remove Zc).errno S=15 then 15 else if (openS S).readE Zt=5 then 0 else if (openS S).readE Zt=0 then (if Z1j ((openS S).readT Zt)=true then 0 else 7) else (openS S).readE Zt
def Z1p(S:DS):Tab:=if (openS S).readE Zt=0 then U2 ((openS S).readT Zt) else []
def Zjn(w:World)(L:List Nat)(g:Nat)(S:DS)(e:Ending)(w':World):Prop :=
 Yt w L g (openS S) w'/\if Z0f S=0 then ∃ rb tv,e=.returned (.tuple #[.pointer (some ⟨rb,0,none⟩),.int .i64 0])/\w.heap.size<=rb/\Blk w' rb 164 [.pointer (some ⟨g,0,none⟩),tv,.bool false]/\Zz w' w.heap.size tv (Z1p S) else e=.returned (.tuple #[.pointer none,.int .i64 (Z0f S)])
theorem Z3h{w w2 w4:World}{L:List Nat}{g bn bs:Nat}{v:Value}{S:DS}(ht:Touch L w w2)(hD:DiskAt w2 g bn bs v S)(hL:∀ i ∈ Zh g bn bs v,i ∈ L ∨ w.heap.size<=i)(hb:Below w2.heap.size w2 w4):Yt w L g S w4 :=
 ⟨ht.trans (L':=[]) (Touch.ofBelow hb) (by simp),_,⟨bn,bs,v,hD.below hb,rfl⟩,hL⟩
theorem Zjo(S:DS):(Call.remove Zc).errno S=0 ∨ (Call.remove Zc).errno S=5 ∨ (Call.remove Zc).errno S=15:=by
 have e:(Call.remove Zc).err S.tick=if Zw S.tick.now Zc=true then 0 else 5:=by
  show (if Y1 Zc=true then (if Zw S.tick.now Zc=true then (0:Int) else 5) else 11)=_;rw[if_pos (by decide)]
 unfold Call.errno;rw[e];split
 ·exact .inr (.inr rfl)
 ·split
  ·exact .inl rfl
  ·exact .inr (.inl rfl)
theorem Zjp(S:DS):S.readE Zt=0 ∨ S.readE Zt=5 ∨ S.readE Zt=15:=by
 unfold DS.readE;split
 ·exact .inr (.inr rfl)
 ·have : Y1 Zt=true:=by decide
  simp only[this,if_true];split
  ·exact .inl rfl
  ·exact .inr (.inl rfl)
theorem Zjq(g bn bs:Nat)(v:Value)(S:DS)(w:World)(h:DiskAt w g bn bs v S)(hA:Asked S)(hpa0:(openS S).readE Zt=0->∀ w,Calls lA 142 #[.string ⟨((openS S).readT Zt).toArray⟩] w (Z9z w ((openS S).readT Zt))) :
  Calls lA 72 #[.pointer (some ⟨g,0,none⟩)] w (Zjn w (Zh g bn bs v) g S):=by
 have hrm:Hid (Calls lA 65 #[.pointer (some ⟨g,0,none⟩),.string ⟨#[114,101,102,115,46,110,101,119]⟩] w fun e w'=>e=.returned (.int .i64 ((Call.remove Zc).errno S))/\Yt w (Zh g bn bs v) g (openS S) w'):=iD (Zaj g bn bs v S Zc w h hA (by decide));obtain⟨e1,he1⟩:∃ e1,e1=(Call.remove Zc).errno S:=⟨_,rfl⟩;obtain⟨e2,he2⟩:∃ e2,e2=(openS S).readE Zt:=⟨_,rfl⟩;obtain⟨t,ht⟩:∃ t,t=(openS S).readT Zt:=⟨_,rfl⟩;have c1:=Zjo S;have c2:=Zjp (openS S);rw[<-he1] at hrm c1;rw[<-he2] at c2;have hrd:Hid (∀ bn2 bs2 v2 w2,DiskAt w2 g bn2 bs2 v2 (openS S)->Calls lA 141 #[.pointer (some ⟨g,0,none⟩),.string ⟨#[114,101,102,115]⟩] w2 fun e w'=>e=.returned (.tuple #[.string ⟨t.toArray⟩,.int .i64 e2])/\w2=w'):=iD (fun bn2 bs2 v2 w2 h2=>by
  rw[ht,he2];exact Zjl g bn2 bs2 v2 (openS S) Zt w2 h2 (by decide))
 have hpa:Hid (e2=0->∀ w,Calls lA 142 #[.string ⟨t.toArray⟩] w (Z9z w t)):=iD (by rw[he2,ht];exact hpa0);have hE:Hid (Z0f S=if e1=15 then 15 else if e2=5 then 0 else if e2=0 then (if Z1j t=true then 0 else 7) else e2):=iD (by unfold Z0f;rw[<-he1,<-he2,<-ht]);have hT:Hid (Z1p S=if e2=0 then U2 t else []):=iD (by unfold Z1p;rw[<-he2,<-ht]);clear he1 he2 ht h hA hpa0;rcases c1 with rfl | rfl | rfl
 case inr.inr =>
  go_enter func72,ntmps72;go_wp2_with (first
   | (go_at_call 65;(with_reducible refine hrm.out.mono ?_);rintro e w2 ⟨rfl,ht⟩))
  refine lE (lG rfl _ _ _) rfl ?_;refine⟨ht,?_⟩;rw[hE.out];rfl
 all_goals
  rcases c2 with rfl | rfl | rfl
  case inr.inr =>
   go_enter func72,ntmps72;go_wp2_with (first
    | (go_at_call 65;(with_reducible refine hrm.out.mono ?_);rintro e w2 ⟨rfl,ht,L',⟨bn2,bs2,v2,hD2,rfl⟩,hL⟩)
    | (go_at_call 141;(with_reducible refine (hrd.out _ _ _ _ hD2).mono ?_);rintro e w3 ⟨rfl,rfl⟩))
   refine lE (lG rfl _ _ _) rfl ?_;refine⟨Z3h ht hD2 hL (lB _ _),?_⟩;rw[hE.out];rfl
  case inr.inl =>
   go_enter func72,ntmps72;go_wp2_with (first
    | (go_at_call 65;(with_reducible refine hrm.out.mono ?_);rintro e w2 ⟨rfl,ht,L',⟨bn2,bs2,v2,hD2,rfl⟩,hL⟩)
    | (go_at_call 141;(with_reducible refine (hrd.out _ _ _ _ hD2).mono ?_);rintro e w3 ⟨rfl,rfl⟩))
   refine lE (lG rfl _ _ _) rfl ?_;refine⟨Z3h ht hD2 hL bL,?_⟩;rw[hE.out,hT.out];exact⟨_,_,rfl,ht.size,Blk.new_at rfl,Zz.nil⟩
  case inl =>
   by_cases hp:Z1j t=true
   ·have hpa2:Hid (∀ w,Calls lA 142 #[.string ⟨t.toArray⟩] w fun e w'=>∃ v,e=.returned (.tuple #[v,.int .i64 0])/\Zz w' w.heap.size v (U2 t)/\Below w.heap.size w w'):=iD (fun w=>(hpa.out rfl w).mono fun e w' hR=>by
     obtain⟨hb,hR⟩:=hR;rw[if_pos hp] at hR;obtain⟨v,h1,h2⟩:=hR;exact⟨v,h1,h2,hb⟩)
    replace hp:=iD hp;clear hpa;go_enter func72,ntmps72;go_wp2_with (first
     | (go_at_call 65;(with_reducible refine hrm.out.mono ?_);rintro e w2 ⟨rfl,ht,L',⟨bn2,bs2,v2,hD2,rfl⟩,hL⟩)
     | (go_at_call 141;(with_reducible refine (hrd.out _ _ _ _ hD2).mono ?_);rintro e w3 ⟨rfl,rfl⟩)
     | (go_at_call 142;(with_reducible refine (hpa2.out _).mono ?_);rintro e w4 ⟨tv,rfl,hO4,hb4⟩;obtain⟨TA,tc,rfl,_⟩:=hO4.form))
    refine lE (lG rfl _ _ _) rfl ?_;have hba:=(lB w4.heap.size w4).alloc (lI _) (.cells #[.pointer (some ⟨g,0,none⟩),.slice TA (U2 t).length tc,.bool false] 164);refine⟨Z3h ht hD2 hL (hb4.trans (hba.mono hb4.size)),?_⟩;rw[hE.out,hT.out,hp.out];obtain⟨vs,hvl,hrow,hh⟩:=hO4;have hO5:Zz (w4.alloc (.cells #[.pointer (some ⟨g,0,none⟩),.slice TA (U2 t).length tc,.bool false] 164)) w.heap.size (.slice TA (U2 t).length tc) (U2 t):=(Zz.keepB ⟨vs,hvl,hrow,hh⟩ hba).lower ht.size;exact⟨_,_,rfl,lD ht.size hb4.size,Blk.new_at rfl,hO5⟩
   ·have hpa2:Hid (∀ w,Calls lA 142 #[.string ⟨t.toArray⟩] w fun e w'=>e=.returned (.tuple #[.slice none 0 0,.int .i64 7])/\Below w.heap.size w w'):=iD (fun w=>(hpa.out rfl w).mono fun e w' hR=>by
     obtain⟨hb,hR⟩:=hR;rw[if_neg hp] at hR;exact⟨hR,hb⟩)
    have hp':Z1j t=false:=by simpa using hp
    replace hp':=iD hp';clear hpa hp;go_enter func72,ntmps72;go_wp2_with (first
     | (go_at_call 65;(with_reducible refine hrm.out.mono ?_);rintro e w2 ⟨rfl,ht,L',⟨bn2,bs2,v2,hD2,rfl⟩,hL⟩)
     | (go_at_call 141;(with_reducible refine (hrd.out _ _ _ _ hD2).mono ?_);rintro e w3 ⟨rfl,rfl⟩)
     | (go_at_call 142;(with_reducible refine (hpa2.out _).mono ?_);rintro e w4 ⟨rfl,hb4⟩))
    refine lE (lG rfl _ _ _) rfl ?_;refine⟨Z3h ht hD2 hL hb4,?_⟩;rw[hE.out,hp'.out];rfl
end Go.Proofs.YtfdimggmljkkbaaGreatDoor
end
section
namespace Go.Proofs.YtfdimggmljkkbaaGreatDoor
open Go.RowKit
def Xa(S:DS):List Call->Int
 | []=>0
 | c :: r=>if c.errno S=0 then Xa (c.turn S) r else c.errno S
def Yv(S:DS):List Call->DS
 | []=>S
 | c :: r=>if c.errno S=0 then Yv (c.turn S) r else c.turn S
def J8(s:Str):List Call:=[.write Zc s,.sync,.rename Zc Zt,.sync]
theorem Zz.touch{w w':World}{L:List Nat}{base:Nat}{v:Value}{T:Tab}(h:Zz w base v T)(ht:Touch L w w')(hn:∀ i ∈ L,∀ t cs,Blk w i t cs->t ≠ 192/\t ≠ 47):Zz w' base v T:=by
 obtain⟨vs,hl,ho,hh⟩:=h;refine⟨vs,hl,Zk ho ht (fun b hb hm=>?_),fun k b u h1 h2=>(hh k b u h1 h2).keep (fun b cs _ hB=>hB.touch ht (fun hm=>(hn b hm _ _ hB).2 rfl))⟩;obtain⟨cs,hB⟩:=Z37 ho b hb;exact (hn b hm _ _ hB).1 rfl
theorem Zam{w:World}{g bn bs:Nat}{pv:Value}{S:DS}(hD:DiskAt w g bn bs pv S):∀ i ∈ Zh g bn bs pv,∀ t cs,Blk w i t cs->t=64 ∨ t=224:=fun i hi t cs hB=>by
 by_cases h1:t=64
 ·exact .inl h1
 ·by_cases h2:t=224
  ·exact .inr h2
  ·exact absurd hi (hD.tag hB h1 h2)
theorem Up{e:Int}(h:(e == 0)=true):e=0:=by simpa using h
theorem Zjr{e:Int}(h:(e != 0)=false):e=0:=by simpa using h
theorem Z3i{e:Int}(h:(e != 0)=true):e ≠ 0:=by simpa using h
structure Mid (w:World) (L:List Nat) (rb g:Nat) (v nv:Value) (base:Nat) (T:Tab) (S:DS) (W:World):Prop where
 touch:Touch L w W
 disk:∃ L',J4 W L' g S/\∀ i ∈ L',i ∈ L ∨ w.heap.size<=i
 ref:Blk W rb 164 [.pointer (some ⟨g,0,none⟩),v,.bool false]
 own:Zz W base nv T
theorem Mid.step{w:World}{L:List Nat}{rb g:Nat}{v nv:Value}{base:Nat}{T:Tab}{S S':DS}{W W':World}(h:Mid w L rb g v nv base T S W){bn bs:Nat}{pv:Value}(hD:DiskAt W g bn bs pv S)(hL:∀ i ∈ Zh g bn bs pv,i ∈ L ∨ w.heap.size<=i)(ht:Yt W (Zh g bn bs pv) g S' W'):Mid w L rb g v nv base T S' W':=by
 obtain⟨ht,L',hD',hL'⟩:=ht;have hf:=Zam hD;refine⟨h.touch.trans ht hL,⟨L',hD',fun i hi=>?_⟩,h.ref.touch ht (hD.tag h.ref (by decide) (by decide)),h.own.touch ht (fun i hi t cs hB=>?_)⟩
 ·rcases hL' i hi with h1 | h1
  ·exact hL i h1
  ·exact .inr (lD h.touch.size h1)
 ·rcases hf i hi t cs hB with rfl | rfl <;> exact⟨by decide,by decide⟩
def U5(w:World)(L:List Nat)(rb g:Nat)(v:Value)(T:Tab)(E:Int)(S:DS)(e:Ending)(w':World):Prop :=
 e=.returned (.int .i64 E)/\Touch (rb :: L) w w'/\(∃ L',J4 w' L' g S/\∀ i ∈ L',i ∈ L ∨ w.heap.size<=i) /\
 ∃ nv,Blk w' rb 164 [.pointer (some ⟨g,0,none⟩),nv,.bool (decide (E=15))]/\if E=0 then Zz w' w.heap.size nv T else nv=v
theorem J4.set{W:World}{L':List Nat}{g:Nat}{S:DS}{rb i:Nat}{u:Value}{cs:List Value}(h:J4 W L' g S)(hB:Blk W rb 164 cs):J4 (W.setCell ⟨rb,i,none⟩ u) L' g S:=by
 obtain⟨bn,bs,pv,hD,rfl⟩:=id h;refine h.touch (M:=[rb]) (Touch.setCell u (by simp)) (fun j hj hm=>?_) (fun j hj cs' hB'=>?_)
 ·simp only[lF] at hm;subst hm;exact hD.tag hB (by decide) (by decide) hj
 ·simp only[lF] at hj;subst hj;exact hB'.ne_ hB (by decide) rfl
theorem Zz.set{W:World}{base:Nat}{v:Value}{T:Tab}{rb i:Nat}{u:Value}{cs:List Value}(h:Zz W base v T)(hB:Blk W rb 164 cs):Zz (W.setCell ⟨rb,i,none⟩ u) base v T :=
 h.touch (L:=[rb]) (Touch.setCell u (by simp)) (fun j hj t cs' hB'=>by
  simp only[lF] at hj;subst hj;have:=hB'.unique hB;subst this;exact⟨by decide,by decide⟩)
theorem U5.bad{w:World}{L:List Nat}{rb g:Nat}{v nv:Value}{base:Nat}{T T':Tab}{S:DS}{W:World}{E:Int}(h:Mid w L rb g v nv base T S W)(hE:E ≠ 0) :
  U5 w L rb g v T' E S (.returned (.int .i64 E)) (W.setCell ⟨rb,2,none⟩ (.bool (decide (E=15)))):=by
 obtain⟨L',hD,hL'⟩:=h.disk;refine⟨rfl,h.touch.mono (fun i hi=>.inl (by simp[hi])) |>.trans (Touch.setCell (L:=[rb]) _ (by simp)) (fun i hi=>.inl (by simp at hi;simp[hi])),⟨L',hD.set h.ref,hL'⟩,v,h.ref.set_ 2 _,?_⟩;rw[if_neg hE]
theorem U5.good{w:World}{L:List Nat}{rb g:Nat}{v nv:Value}{T:Tab}{S:DS}{W:World}(h:Mid w L rb g v nv w.heap.size T S W) :
  U5 w L rb g v T 0 S (.returned (.int .i64 0)) ((W.setCell ⟨rb,2,none⟩ (.bool false)).setCell ⟨rb,1,none⟩ nv):=by
 obtain⟨L',hD,hL'⟩:=h.disk;have hB2:=h.ref.set_ 2 (.bool false);refine⟨rfl,(h.touch.mono (fun i hi=>.inl (by simp[hi])) |>.trans (Touch.setCell (L:=[rb]) _ (by simp)) (fun i hi=>.inl (by simp at hi;simp[hi]))).trans (Touch.setCell (L:=[rb]) _ (by simp)) (fun i hi=>.inl (by simp at hi;simp[hi])),⟨L',(hD.set h.ref).set hB2,hL'⟩,nv,hB2.set_ 1 _,?_⟩;rw[if_pos rfl];exact (h.own.set h.ref).set hB2
theorem do_by(rb g bn bs:Nat)(pv v u:Value)(S:DS)(T:Tab)(C:List Chg)(ok ok':Nat->Prop)(w:World)(hB:Blk w rb 164 [.pointer (some ⟨g,0,none⟩),v,.bool false])
  (h:TabIs w ok v T) (_hf:TFit T) (h':Yz w ok' u C) (_hc:CFit C) (hE:Yy T C=0) (hC:C ≠ []) (hft:TFit (Zu T C)) (hpl:(Xk (Zu T C)).length<=140737488355328)
  (hD:DiskAt w g bn bs pv S) (hA0:Asked S) (hA1:Asked ((Call.write Zc (Xk (Zu T C))).turn S)) (hA2:Asked (Call.sync.turn ((Call.write Zc (Xk (Zu T C))).turn S)))
  (hA3:Asked ((Call.rename Zc Zt).turn (Call.sync.turn ((Call.write Zc (Xk (Zu T C))).turn S)))) (hap0:Calls lA 110 #[v,u] w (Z1f w T C)) :
  Calls lA 112 #[.pointer (some ⟨rb,0,none⟩),u] w (U5 w (Zh g bn bs pv) rb g v (Zu T C) (Xa S (J8 (Xk (Zu T C)))) (Yv S (J8 (Xk (Zu T C))))):=by
 have hap:=iD hap0;obtain⟨A,tc,rfl,htc⟩:=h.form;obtain⟨CA,cc,rfl,hcc⟩:=h'.form;unfold Z1f at hap;rw[hE] at hap;obtain⟨N,hN⟩:∃ N,N=Zu T C:=⟨_,rfl⟩;obtain⟨Pt,hPt⟩:∃ Pt,Pt=Xk (Zu T C):=⟨_,rfl⟩;rw[<-hPt] at hpl hA1 hA2 hA3 ⊢;rw[<-hN] at hap hft hPt ⊢;have hpr:Hid (∀ (nv:Value) (W:World),Zz W w.heap.size nv N->Calls lA 184 #[nv] W fun e w'=>e=.returned (.tuple #[.string ⟨Pt.toArray⟩,.int .i64 (Yu N)])/\Below W.heap.size W w'):=iD (fun nv W hO=>by rw[hPt];exact Zgi N nv _ W hO.tab hft);obtain⟨m,hm⟩:∃ m,m=Yu N:=⟨_,rfl⟩;rw[<-hm] at hpr;have hCl:0<C.length:=List.length_pos_iff.2 hC;obtain⟨S1,hS1⟩:∃ S1,S1=(Call.write Zc Pt).turn S:=⟨_,rfl⟩;obtain⟨S2,hS2⟩:∃ S2,S2=Call.sync.turn S1:=⟨_,rfl⟩;obtain⟨S3,hS3⟩:∃ S3,S3=(Call.rename Zc Zt).turn S2:=⟨_,rfl⟩;obtain⟨e1,he1⟩:∃ e1,e1=(Call.write Zc Pt).errno S:=⟨_,rfl⟩;obtain⟨e2,he2⟩:∃ e2,e2=Call.sync.errno S1:=⟨_,rfl⟩;obtain⟨e3,he3⟩:∃ e3,e3=(Call.rename Zc Zt).errno S2:=⟨_,rfl⟩;obtain⟨e4,he4⟩:∃ e4,e4=Call.sync.errno S3:=⟨_,rfl⟩;rw[<-hS1] at hA1 hA2 hA3;rw[<-hS2] at hA2 hA3;rw[<-hS3] at hA3;have hwr:Hid (∀ nv W,Mid w (Zh g bn bs pv) rb g (.slice A T.length tc) nv w.heap.size N S W->Calls lA 59 #[.pointer (some ⟨g,0,none⟩),.string ⟨#[114,101,102,115,46,110,101,119]⟩,.string ⟨Pt.toArray⟩] W fun e W'=>e=.returned (.int .i64 e1)/\Mid w (Zh g bn bs pv) rb g (.slice A T.length tc) nv w.heap.size N S1 W'):=iD (fun nv W hm=>by
  obtain⟨L',⟨bn',bs',pv',hD',rfl⟩,hL'⟩:=hm.disk;refine (Zai g bn' bs' pv' S Zc Pt W hD' hA0 (by decide) hpl).mono ?_;rintro e W' ⟨he,ht⟩;rw[<-hS1] at ht;exact⟨by rw[he,he1],hm.step hD' hL' ht⟩)
 have hs1:Hid (∀ nv W,Mid w (Zh g bn bs pv) rb g (.slice A T.length tc) nv w.heap.size N S1 W->Calls lA 60 #[.pointer (some ⟨g,0,none⟩)] W fun e W'=>e=.returned (.int .i64 e2)/\Mid w (Zh g bn bs pv) rb g (.slice A T.length tc) nv w.heap.size N S2 W'):=iD (fun nv W hm=>by
  obtain⟨L',⟨bn',bs',pv',hD',rfl⟩,hL'⟩:=hm.disk;refine (Zal g bn' bs' pv' S1 W hD' hA1.toFit).mono ?_;rintro e W' ⟨he,ht⟩;rw[<-hS2] at ht;exact⟨by rw[he,he2],hm.step hD' hL' ht⟩)
 have hrn:Hid (∀ nv W,Mid w (Zh g bn bs pv) rb g (.slice A T.length tc) nv w.heap.size N S2 W->Calls lA 62 #[.pointer (some ⟨g,0,none⟩),.string ⟨#[114,101,102,115,46,110,101,119]⟩,.string ⟨#[114,101,102,115]⟩] W fun e W'=>e=.returned (.int .i64 e3)/\Mid w (Zh g bn bs pv) rb g (.slice A T.length tc) nv w.heap.size N S3 W'):=iD (fun nv W hm=>by
  obtain⟨L',⟨bn',bs',pv',hD',rfl⟩,hL'⟩:=hm.disk;refine (Zjk g bn' bs' pv' S2 Zc Zt W hD' hA2 (by decide) (by decide)).mono ?_;rintro e W' ⟨he,ht⟩;rw[<-hS3] at ht;exact⟨by rw[he,he3],hm.step hD' hL' ht⟩)
 have hs2:Hid (∀ nv W,Mid w (Zh g bn bs pv) rb g (.slice A T.length tc) nv w.heap.size N S3 W->Calls lA 60 #[.pointer (some ⟨g,0,none⟩)] W fun e W'=>e=.returned (.int .i64 e4)/\Mid w (Zh g bn bs pv) rb g (.slice A T.length tc) nv w.heap.size N (Call.sync.turn S3) W'):=iD (fun nv W hm=>by
  obtain⟨L',⟨bn',bs',pv',hD',rfl⟩,hL'⟩:=hm.disk;refine (Zal g bn' bs' pv' S3 W hD' hA3.toFit).mono ?_;rintro e W' ⟨he,ht⟩;exact⟨by rw[he,he4],hm.step hD' hL' ht⟩)
 have hcE:Hid (Xa S (J8 Pt)=if e1=0 then (if e2=0 then (if e3=0 then (if e4=0 then 0 else e4) else e3) else e2) else e1):=iD (by simp only[J8,Xa,<-hS1,<-he1,<-hS2,<-he2,<-hS3,<-he3,<-he4]);have hcS:Hid (Yv S (J8 Pt)=if e1=0 then (if e2=0 then (if e3=0 then (if e4=0 then Call.sync.turn S3 else Call.sync.turn S3) else S3) else S2) else S1):=iD (by simp only[J8,Yv,<-hS1,<-he1,<-hS2,<-he2,<-hS3,<-he3,<-he4]);have hmid:Hid (∀ nv W,Zz W w.heap.size nv N->Below w.heap.size w W->Mid w (Zh g bn bs pv) rb g (.slice A T.length tc) nv w.heap.size N S W):=iD (fun nv W hO hb=>⟨Touch.ofBelow hb,⟨_,⟨bn,bs,pv,hD.below hb,rfl⟩,fun i hi=>.inl hi⟩,hB.below hb hB.lt,hO⟩);have h0:=hB.cell 0;have h1:=hB.cell 1;have h2:=hB.cell 2;have iC:((C.length:Int) == 0)=false:=by rw[beq_eq_false_iff_ne];omega
 clear h h' hS1 hS2 hS3 he1 he2 he3 he4 hm hPt hN hE hD hA0 hA1 hA2 hA3 hC;go_enter func112,ntmps112;go_wp2_with (first
  | (go_at_call 110;(with_reducible refine hap.out.mono ?_);rintro e w2 ⟨nv,rfl,hO2,hb2⟩;obtain⟨NA,nc,rfl,_⟩:=hO2.form;replace hO2:=iD hO2)
  | (go_at_call 184;(with_reducible refine (hpr.out _ _ hO2.out).mono ?_);rintro e w3 ⟨rfl,hb3⟩;have hm0:=hmid.out _ w3 (hO2.out.keepB hb3) (hb2.trans (hb3.mono hb2.size));have r0:=hm0.ref.cell 0)
  | (go_at_call 59;(with_reducible refine (hwr.out _ _ hm0).mono ?_);rintro e w4 ⟨rfl,hm1⟩;have r0:=hm1.ref.cell 0;have r2:=hm1.ref.cell 2;have f2:=hm1.ref.frozen 2)
  | (go_at_call 60;(with_reducible refine (hs2.out _ _ hm3).mono ?_);rintro e w7 ⟨rfl,hm4⟩;have r0:=hm4.ref.cell 0;have r2:=hm4.ref.cell 2;have f2:=hm4.ref.frozen 2;have r1:=hm4.ref.cell 1;have f1:=hm4.ref.frozen 1)
  | (go_at_call 60;(with_reducible refine (hs1.out _ _ hm1).mono ?_);rintro e w5 ⟨rfl,hm2⟩;have r0:=hm2.ref.cell 0;have r2:=hm2.ref.cell 2;have f2:=hm2.ref.frozen 2)
  | (go_at_call 62;(with_reducible refine (hrn.out _ _ hm2).mono ?_);rintro e w6 ⟨rfl,hm3⟩;have r0:=hm3.ref.cell 0;have r2:=hm3.ref.cell 2;have f2:=hm3.ref.frozen 2))
 ·have z1:e1=0:=Up (by assumption);have z2:e2=0:=Up (by assumption);have z3:e3=0:=Up (by assumption);have z4:e4 ≠ 0:=Z3i (by assumption);go_ret;rw[hcE.out,hcS.out,if_pos z1,if_pos z2,if_pos z3,if_neg z4,if_pos z1,if_pos z2,if_pos z3,if_neg z4];exact U5.bad hm4 z4
 ·have z1:e1=0:=Up (by assumption);have z2:e2=0:=Up (by assumption);have z3:e3=0:=Up (by assumption);have z4:e4=0:=Zjr (by assumption);subst z4;go_ret;rw[hcE.out,hcS.out,if_pos z1,if_pos z2,if_pos z3,if_pos rfl,if_pos z1,if_pos z2,if_pos z3,if_pos rfl];exact U5.good hm4
 ·have z1:e1=0:=Up (by assumption);have z2:e2=0:=Up (by assumption);have z4:e3 ≠ 0:=Z3i (by assumption);go_ret;rw[hcE.out,hcS.out,if_pos z1,if_pos z2,if_neg z4,if_pos z1,if_pos z2,if_neg z4];exact U5.bad hm3 z4
 ·have z1:e1=0:=Up (by assumption);have z4:e2 ≠ 0:=Z3i (by assumption);go_ret;rw[hcE.out,hcS.out,if_pos z1,if_neg z4,if_pos z1,if_neg z4];exact U5.bad hm2 z4
 ·have z4:e1 ≠ 0:=Z3i (by assumption);go_ret;rw[hcE.out,hcS.out,if_neg z4,if_neg z4];exact U5.bad hm1 z4
end Go.Proofs.YtfdimggmljkkbaaGreatDoor
end
end
section
section
namespace Go.Proofs.YtfdimggmljkkbaaGreatDoor
structure Holds (D:DM) (X:Option Str):Prop where
 map:Yl D
 next:Zw D Zc=false
 file:Zw D Zt=X.isSome
 text:fS D Zt=X.getD []
 len:Zs D=if X.isSome then 1 else 0
 sum:Yx D=(X.getD []).length
structure Live (S:DS) (X:Option Str):Prop where
 inv:Inv S 0
 off:S.off=false
 fuse:S.fuse = -1
 sure:S.sure=S.now
 holds:Holds S.now X
section
variable {S:DS} {X:Option Str}
theorem Live.pend(h:Live S X):S.pend=[]:=l2 (Nat.le_zero.1 h.inv.len)
theorem Z3j{S:DS}(ho:S.off=false)(hf:S.fuse = -1):S.tick=S:=by
 obtain⟨a,b,c,d,e,f⟩:=S;simp only at ho hf;subst ho;subst hf;rfl
theorem Live.new{room:Int}(h0:0<=room)(h1:room<=16777216):Live (DS.new room) none :=
 ⟨Inv.new h0 h1,rfl,rfl,rfl,⟨Yl.nil,rfl,rfl,rfl,rfl,rfl⟩⟩
theorem Live.openS(h:Live S X):Proofs.YtfdimggmljkkbaaGreatDoor.openS S=S:=by
 have e:(Call.remove Zc).err S=5:=by
  show (if Y1 Zc=true then (if Zw S.now Zc=true then (0:Int) else 5) else 11)=5;rw[if_pos (by decide),h.holds.next];rfl
 unfold Proofs.YtfdimggmljkkbaaGreatDoor.openS Call.turn;rw[Z3j h.off h.fuse,h.off,e];rfl
theorem Live.readE(h:Live S X):S.readE Zt=if X.isSome then 0 else 5:=by
 unfold DS.readE;rw[h.off,h.holds.file];rw[show Y1 Zt=true by decide];simp
theorem Live.removeE(h:Live S X):(Call.remove Zc).errno S=5:=by
 have e:(Call.remove Zc).err S=5:=by
  show (if Y1 Zc=true then (if Zw S.now Zc=true then (0:Int) else 5) else 11)=5;rw[if_pos (by decide),h.holds.next];rfl
 unfold Call.errno;rw[Z3j h.off h.fuse,h.off,e];rfl
theorem Live.openE_none(h:Live S none):Z0f S=0/\Z1p S=[]:=by
 unfold Z0f Z1p;rw[h.openS,h.removeE,h.readE];exact⟨rfl,rfl⟩
theorem Z1q{S:DS}(c:Call)(ho:S.off=false)(hf:S.fuse = -1):c.errno S=c.err S:=by
 unfold Call.errno;rw[Z3j ho hf,ho];rfl
theorem Z1r{S:DS}(c:Call)(ho:S.off=false)(hf:S.fuse = -1):c.turn S=if c.err S=0 then c.done S else S:=by
 unfold Call.turn;rw[Z3j ho hf,ho];rfl
theorem nf:Zt ≠ Zc:=by decide
def Live.after(S:DS)(t:Str):DS:={ S with now:=Zx (Xf (Zx S.now Zc t) Zc) Zt t,sure:=Zx (Xf (Zx S.now Zc t) Zc) Zt t,pend:=[] }
end
end Go.Proofs.YtfdimggmljkkbaaGreatDoor
end
section
namespace Go.Proofs.YtfdimggmljkkbaaGreatDoor
end Go.Proofs.YtfdimggmljkkbaaGreatDoor
end
section
namespace Go.Proofs.YtfdimggmljkkbaaGreatDoor
open Go.RowKit
def Gf(W W':World):Prop:=∀ k t cs,Blk W k t cs->t ≠ 164->t ≠ 64->t ≠ 224->Blk W' k t cs
theorem Gf.touch{W W':World}{g bn bs:Nat}{pv:Value}{S:DS}(hD:DiskAt W g bn bs pv S)(ht:Touch (Zh g bn bs pv) W W'):Gf W W':=fun _ _ _ hB _ b c=>hB.touch ht (hD.tag hB b c)
structure Stay (base:Nat->Prop) (w w':World):Prop where
 os:w'.os=w.os
 tape:w'.tape=w.tape
 output:w'.output=w.output
 size:w.heap.size<=w'.heap.size
 block:∀ k,k<w.heap.size->¬ base k->w'.heap[k]?=w.heap[k]?
theorem Stay.trans{base:Nat->Prop}{a b c:World}(h:Stay base a b)(k:Stay base b c):Stay base a c :=
 ⟨k.os.trans h.os,k.tape.trans h.tape,k.output.trans h.output,lD h.size k.size,fun i hi hn=>(k.block i (lZ hi h.size) hn).trans (h.block i hi hn)⟩
theorem Touch.stay{base:Nat->Prop}{L:List Nat}{w w':World}(h:Touch L w w')(hL:∀ i ∈ L,base i):Stay base w w':=⟨h.os,h.tape,h.output,h.size,fun k hk hn=>h.block k hk (fun hm=>hn (hL k hm))⟩
theorem Z3k{base:Nat->Prop}{w w':World}{B:Nat}(h:Below B w w')(hB:∀ i,B<=i->i<w.heap.size->base i):Stay base w w':=⟨h.os,h.tape,h.output,h.size,fun k hk hn=>h.block k (Nat.lt_of_not_le fun hl=>hn (hB k hl hk))⟩
theorem Stay.below{B:Nat}{w w':World}(h:Stay (B<=·) w w')(hB:B<=w.heap.size):Below B w w':=⟨h.os,h.tape,h.output,h.size,fun k hk=>h.block k (by omega) (by omega)⟩
structure Ses (w0:World) (base:Nat->Prop) (g:Nat) (S:DS) (W:World):Prop where
 bel:Stay base w0 W
 size:∀ i,W.heap.size<=i->base i
 disk:∃ L,J4 W L g S/\∀ i ∈ L,base i
structure Ref (w0:World) (base:Nat->Prop) (rb g:Nat) (v:Value) (S:DS) (T:Tab) (W:World):Prop extends Ses w0 base g S W where
 low:base rb
 ref:Blk W rb 164 [.pointer (some ⟨g,0,none⟩),v,.bool false]
 own:Zz W 0 v T
theorem Ses.below{w0:World}{base:Nat->Prop}{g:Nat}{S:DS}{W W':World}(h:Ses w0 base g S W)(hb:Below W.heap.size W W'):Ses w0 base g S W':=by
 obtain⟨L,hD,hL⟩:=h.disk;exact⟨h.bel.trans (Z3k hb (fun i h1 h2=>absurd h2 (by omega))),fun i hi=>h.size i (lD hb.size hi),L,hD.below hb,hL⟩
theorem Ref.below{w0:World}{base:Nat->Prop}{rb g:Nat}{v:Value}{S:DS}{T:Tab}{W W':World}(h:Ref w0 base rb g v S T W)(hb:Below W.heap.size W W'):Ref w0 base rb g v S T W' :=
 ⟨h.toSes.below hb,h.low,h.ref.below hb h.ref.lt,h.own.keepB hb⟩
theorem Ses.turned{w0:World}{base:Nat->Prop}{g:Nat}{S S':DS}{W W':World}{L:List Nat}(h:Ses w0 base g S W)(hL:∀ i ∈ L,base i)(ht:Yt W L g S' W'):Ses w0 base g S' W':=by
 obtain⟨ht,L',hD,hL'⟩:=ht;refine⟨h.bel.trans (ht.stay hL),fun i hi=>h.size i (lD ht.size hi),L',hD,fun i hi=>?_⟩;rcases hL' i hi with h1 | h1
 ·exact hL i h1
 ·exact h.size _ h1
theorem Z65{T:Tab}(hm:Yu T=0)(hh:tOk T):(Jh T).length<=65536:=by
 have h1:=(O7 T).1 hm;have:=Z2w h1.2.1 hh;have:=h1.1;omega
theorem Zjs{w0:World}{base:Nat->Prop}{g:Nat}{S:DS}{W:World}(h:Ses w0 base g S W)(hS:Live S none) :
  Calls lA 72 #[.pointer (some ⟨g,0,none⟩)] W fun e W'=>∃ rb v,e=.returned (.tuple #[.pointer (some ⟨rb,0,none⟩),.int .i64 0])/\Ref w0 base rb g v S [] W'/\Gf W W':=by
 obtain⟨L,⟨bn,bs,pv,hD,rfl⟩,hL⟩:=h.disk;have hE:=hS.openE_none;refine (Zjq g bn bs pv S W hD (hS.inv.asked (by omega)) (fun he=>?_)).mono ?_
 ·rw[hS.openS,hS.readE] at he;cases he
 ·rintro e W' ⟨ht,hR⟩;rw[hE.1,if_pos rfl,hE.2] at hR;rw[hS.openS] at ht;obtain⟨rb,tv,he,hlo,hB,hO⟩:=hR;exact⟨rb,tv,he,⟨h.turned hL ht,h.size _ hlo,hB,hO.lower (Nat.zero_le _)⟩,Gf.touch hD ht.1⟩
end Go.Proofs.YtfdimggmljkkbaaGreatDoor
end
section
namespace Go.Proofs.YtfdimggmljkkbaaGreatDoor
structure Fine (T:Tab):Prop where
 sorted:sorted T
 ok:∀ b ∈ T,bOk b
 dig:tOk T
theorem Fine.may{T:Tab}(h:Fine T)(hl:T.length<=32):Yu T=0:=(O7 T).2 ⟨hl,h.ok,h.sorted⟩
theorem Fine.of{T:Tab}(hm:Yu T=0)(hh:tOk T):Fine T:=⟨((O7 T).1 hm).2.2,((O7 T).1 hm).2.1,hh⟩
theorem Zan{l:Tab}:∀ (C ahead:List Chg),Jx l ahead C=0->∀ c ∈ C,Yi c.name=true/\Ym c.new=0
 | [],_,_,c,h=>by cases h
 | x :: r,ahead,h,c,hc=>by
  unfold Jx at h;by_cases hx:Vt l ahead x=0
  ·rw[if_pos hx] at h;rcases lS.1 hc with rfl | hc
   ·unfold Vt at hx;by_cases hn:Yi c.name=true
    ·rw[if_pos hn] at hx;by_cases ha:(ahead.any fun x=>x.name == c.name)=true
     ·rw[if_pos ha] at hx;cases hx
     ·rw[if_neg ha] at hx;by_cases hh:Ym c.new=0
      ·exact⟨hn,hh⟩
      ·rw[if_neg hh] at hx;exact absurd hx hh
    ·rw[if_neg hn] at hx;cases hx
   ·exact Zan r _ h c hc
  ·rw[if_neg hx] at h;exact absurd h hx
theorem Fine.step{T:Tab}(h:Fine T){c:Chg}(hn:Yi c.name=true)(hh:Ym c.new=0)(hd:hOk c.new):Fine (J6 T c) :=
 ⟨Z5e h.sorted c,fun b hb=>by
  rcases Z5f hb with hb | ⟨rfl,hne⟩
  ·exact h.ok b hb
  ·exact⟨hn,hne,hh⟩,fun b hb=>by
  rcases Z5f hb with hb | ⟨rfl,_⟩
  ·exact h.dig b hb
  ·exact hd⟩
theorem Fine.steps:∀ (C:List Chg) {T:Tab},Fine T->(∀ c ∈ C,Yi c.name=true/\Ym c.new=0)->cOk C->Fine (C.foldl J6 T)
 | [],_,h,_,_=>h
 | c :: r,_,h,hc,hd=>Fine.steps r (h.step (hc c (by simp)).1 (hc c (by simp)).2 (hd c (by simp)).2) (fun x hx=>hc x (by simp[hx])) (fun x hx=>hd x (by simp[hx]))
theorem Zjt{T:Tab}{C:List Chg}(h:Yy T C=0):Yu T=0:=by
 unfold Yy at h;by_cases hm:Yu T=0
 ·exact hm
 ·rw[if_neg hm] at h;exact absurd h hm
theorem Z1s{T:Tab}{C:List Chg}(h:Yy T C=0)(hh:tOk T)(hd:cOk C):Yu (Zu T C)=0/\tOk (Zu T C):=by
 have hm:=Zjt h;have hT:Zu T C=Vu T C:=by unfold Zu;rw[if_pos h]
 unfold Yy at h;rw[if_pos hm] at h;by_cases h1:32<C.length
 ·rw[if_pos h1] at h;cases h
 rw[if_neg h1] at h;by_cases h2:Jx T [] C=0
 ·rw[if_pos h2] at h;by_cases h3:32<(Vu T C).length
  ·rw[if_pos h3] at h;cases h
  have hF:=Fine.of hm hh;have:=hF.steps C (Zan C [] h2) hd;rw[Z5g C T hF.sorted] at this;rw[hT];exact⟨this.may (by omega),this.dig⟩
 ·rw[if_neg h2] at h;exact absurd h h2
end Go.Proofs.YtfdimggmljkkbaaGreatDoor
end
section
namespace Go.Proofs.YtfdimggmljkkbaaGreatDoor
open Go.RowKit
theorem Ref.turned{w0:World}{base:Nat->Prop}{rb g:Nat}{v:Value}{S S':DS}{T:Tab}{W W':World}{bn bs:Nat}{pv:Value}(h:Ref w0 base rb g v S T W)(hD:DiskAt W g bn bs pv S)(hL:∀ i ∈ Zh g bn bs pv,base i)(ht:Yt W (Zh g bn bs pv) g S' W'):Ref w0 base rb g v S' T W':=by
 have hf:=Zam hD;refine⟨h.toSes.turned hL ht,h.low,h.ref.touch ht.1 (hD.tag h.ref (by decide) (by decide)),h.own.touch ht.1 (fun i hi t cs hB=>?_)⟩;rcases hf i hi t cs hB with rfl | rfl <;> exact⟨by decide,by decide⟩
end Go.Proofs.YtfdimggmljkkbaaGreatDoor
end
end
section
section
namespace Go.Proofs.YtfdimggmljkkbaaGreatDoor
open Go.RowKit
theorem Zao(rb:Nat)(d br v:Value)(T:Tab)(ok:Nat->Prop)(w:World)(hB:Blk w rb 164 [d,v,br])(h:TabIs w ok v T)(hf:TFit T) :
  Calls lA 47 #[.pointer (some ⟨rb,0,none⟩)] w (Z5a w T):=by
 obtain⟨A,c,rfl,hc⟩:=h.form;have ho:=iD (Z9n T _ ok w h hf);have h1:=hB.cell 1;clear h;go_enter func47,ntmps47;go_wp2_with (first
  | (go_at_call 108;(with_reducible refine ho.out.mono ?_);rintro e w2 ⟨u,rfl,hu,hb⟩))
 go_ret;exact⟨_,rfl,hu,hb⟩
def Zap(w:World)(l:List Str)(e:Ending)(w':World):Prop:=∃ u,e=.returned (.tuple #[u,.bool (decide (l ≠ []))])/\Z7 w' (Yc w' w.heap.size) u l/\Below w.heap.size w w'
theorem Z1t(rb:Nat)(d br v:Value)(T:Tab)(n:Str)(ok:Nat->Prop)(w:World)(hB:Blk w rb 164 [d,v,br])(h:TabIs w ok v T)(hf:TFit T)(hs:sorted T) :
  Calls lA 31 #[.pointer (some ⟨rb,0,none⟩),Z0 n] w (Zap w (Z4 T n)):=by
 obtain⟨u,hu,hst⟩:=Z57 T v n ok w h hf.len hs;have hst:=iD (hst w (lB _ _));have hcl:=iD (fun W (hb:Below w.heap.size w W)=>Z31 (Z4 T n) u ok W (hu.stayB hb) (Z2z hf n));obtain⟨A,c,rfl,hc⟩:=h.form;obtain⟨UA,uc,rfl,huc,_⟩:=id hu;have h1:=hB.cell 1;obtain⟨l,hl⟩:∃ l,l=Z4 T n:=⟨_,rfl⟩;rw[<-hl] at hst hcl ⊢;unfold Z0 at hst ⊢;clear hu h hl;go_enter func31,ntmps31;go_wp2_with (first
  | (go_at_call 89;(with_reducible refine hst.out.mono ?_);rintro e w2 ⟨rfl,hb2⟩)
  | (go_at_call 40;(with_reducible refine (hcl.out _ hb2).mono ?_);rintro e w3 ⟨x,rfl,hx,hb3⟩;obtain⟨XA,xc,rfl,_,_⟩:=id hx))
 refine lE (lG rfl _ _ _) rfl ?_;refine⟨_,?_,hx.lower hb2.size,hb2.trans (hb3.mono hb2.size)⟩;have : decide (0<l.length)=decide (l ≠ []):=by cases l <;> simp
 rw[<-this];rfl
end Go.Proofs.YtfdimggmljkkbaaGreatDoor
end
section
namespace Go.Proofs.YtfdimggmljkkbaaGreatDoor
open Go.RowKit
def d7:Str:=7 :: List.replicate 31 0
def Z66:Str:=[109,97,105,110]
def c0:Chg:=⟨Z66,[],[d7]⟩
def T1:Tab:=[⟨Z66,[d7]⟩]
theorem a1:Yy [] [c0]=0:=by decide
theorem a2:Zu [] [c0]=T1:=by unfold Zu;rw[if_pos a1];rfl
theorem a3:Yy T1 [c0]=12:=by decide
theorem a4:Z4 T1 Z66=[d7]:=by decide
theorem hd7{W:World}{hb:Nat}(hH:Blk W hb 47 (d7.map B)):Z7 W (fun _=>True) (.slice (some ⟨hb,0,none⟩) 1 1) [d7] :=
 ⟨_,1,rfl,lI _,Rd.of_blk (r:=[]) hH (by simp[Zy]) trivial⟩
end Go.Proofs.YtfdimggmljkkbaaGreatDoor
end
section
namespace Go.Proofs.YtfdimggmljkkbaaGreatDoor
open Go.RowKit
end Go.Proofs.YtfdimggmljkkbaaGreatDoor
end
section
namespace Go.Proofs.YtfdimggmljkkbaaGreatDoor
open Go.RowKit
end Go.Proofs.YtfdimggmljkkbaaGreatDoor
end
end
end
section
set_option maxHeartbeats 1000000
open Go.Proofs.Tryz
namespace Go.Proofs.YtfdimggmljkkbaaGreatDoor
open Go.RowKit Go.Maps Go.Sort Go.Shelf
theorem Zjz(m:Nat):AnyZ.SortsIn lA Tryz.sorted29_ren lM m :=
  ⟨fun blk off cap ss W hH hblk hsz=>callsIn_wide.2 (AnyM.slices_Sort_string Tryz.sort38 blk off cap ss W hH hblk hsz),
   fun p cap W=>callsIn_wide.2 (AnyM.slices_Sort_string_none Tryz.sort38 p cap W)⟩
theorem Zk0(mb:Option Nat)(W:World):Calls lA 190 #[.map mb] W fun e w' =>
  e=.returned (.func (.func 235) #[] #[.pointer (some ⟨W.heap.size,0,none⟩)])/\w'=W.alloc (.cells #[.map mb] 61) :=
 callsIn_wide.1 (AnyZ.keys_in Tryz.keys30 lM 5 trivial rfl mb W)
theorem Zk1(w:World)(b:Nat)(D:DM)(h:Zq w b D)(hD:Zs D<=4398046511104) :
  Calls lA 189 #[.func (.func 235) #[] #[.pointer (some ⟨w.heap.size,0,none⟩)]] (w.alloc (.cells #[.map (some b)] 61)) fun e w' =>
   ∃ v,e=.returned v/\w'.ownsRow w.heap.size 9 1 v (Ud D).length ((Ud D).map Z0)/\Below w.heap.size w w':=by
 have hbl:=h.lt;have hseq:SeqGives lM 2 lA 235 #[.pointer (some ⟨w.heap.size,0,none⟩)] encStr (fun ss=>ss.Perm (strKeys D)) (lL D) (w.alloc (.cells #[.map (some b)] 61)) :=
  AnyZ.keys_gives (ρ:=Tryz.keys30_ren) { Tryz.keys30 with } lM _ trivial rfl (by omega) w.heap.size b (Zs D) D _ (by simp) (by simp) (by
   obtain⟨es,clock,hb,Ft,hs,hD⟩:=h;exact⟨es,clock,(Below.heap_alloc _ _ b hbl).trans hb,Ft,hs,hD⟩)
 have hs:lL D=Zs D:=rfl;have hc:=AnyZ.sorted_in Tryz.sorted29 lM 5 trivial trivial trivial trivial rfl (by omega) (Zjz _) (lK func234 (by kernel_rfl) rfl) 235 #[.pointer (some ⟨w.heap.size,0,none⟩)] trivial
  (lK func235 (by kernel_rfl) rfl) _ _ (by rw[hs];unfold maxLen;omega) (by rw[hs];omega) _ hseq
 refine (callsIn_wide.1 hc).mono ?_;rintro e w' ⟨v,ss,he,hp,hrow,_,hb⟩;have e1:ss.mergeSort leB=Ud D:=mergeSort_of_perm hp;have e2:ss.length=(Ud D).length:=by rw[hp.length_eq,(Z8m D).length_eq]
 refine⟨v,he,?_,((lB _ w).alloc (lI _) _).trans (hb.mono (by simp))⟩;have hrow':w'.ownsRow (w.alloc (.cells #[.map (some b)] 61)).heap.size 9 1 v ss.length ((ss.mergeSort leB).map encStr):=hrow;rw[e1,e2] at hrow';obtain⟨h1,h2⟩:=hrow';refine⟨h1,?_⟩;rcases h2 with h2 | ⟨g,cap,cur,hv,hg,r⟩
 ·exact .inl h2
 ·exact .inr ⟨g,cap,cur,hv,by simp at hg;omega,r⟩
theorem Zk2(w:World)(v:Value)(n:Nat)(vs:List Value)(h:w.ownsRow 0 224 1 v n vs)(h1:∀ u ∈ vs,u.oneCell'=true)(hn:n<=4398046511104) :
  Calls lA 140 #[v] w fun e w'=>∃ v',e=.returned v'/\w'.ownsRow w.heap.size 224 1 v' n vs/\Below w.heap.size w w':=by
 rcases h.2 with ⟨rfl,rfl⟩ | ⟨g,cap,cur,rfl,hb,hg,hc1,hc2,hc3,hc4⟩
 ·have hv:vs=[]:=l2 (by simpa using h.1);subst hv;have hc:=AnyE.slices_Clone_nil Tryz.cloneS 0 0 w
  change Calls lA 140 _ _ _ at hc
  exact hc.mono fun e w' ⟨he,hw⟩=>⟨_,he,⟨rfl,.inl ⟨rfl,rfl⟩⟩,by rw[hw];exact lB _ _⟩
 ·cases hq:lA.info? 224 with
  | none=>have:=Z5z;simp[hq] at this
  | some i =>
   have hii:=Z5z;simp only[hq,Option.map_some,Option.some.injEq,Prod.mk.injEq] at hii;obtain⟨hz,hsize,hby⟩:=hii;have hc:=AnyE.slices_Clone Tryz.cloneS i (.agg #[.nilFunc]) 1 8 hq hz hsize hby (by simp[l0]) (by omega) sizeOf224 g 0 n cap vs w (by simpa using h.1) (by unfold maxLen;omega) (by omega)
    (fun j u hu=>by have:=h.cells (g:=g) rfl j u hu;rw[Xj] at this;exact this) h1
   change Calls lA 140 _ _ _ at hc
   exact hc.mono fun e w' ⟨v',he,ho,_,hb⟩=>⟨v',he,ho,hb⟩
end Go.Proofs.YtfdimggmljkkbaaGreatDoor
end
section
set_option maxHeartbeats 1000000
open Go.Lib renaming hid → iD
open Go.Proofs.Tryz
namespace Go.Proofs.YtfdimggmljkkbaaGreatDoor
open Go.RowKit Go.Maps Go.Sort
theorem Zk3(g bn bs:Nat)(v:Value)(S:DS)(w:World)(h:DiskAt w g bn bs v S)(ho:S.off=false)(hl:Zs S.now<=4398046511104) :
  Calls lA 124 #[.pointer (some ⟨g,0,none⟩)] w fun e w'=>∃ v,e=.returned v/\w'.ownsRow w.heap.size 9 1 v (Ud S.now).length ((Ud S.now).map Z0)/\Below w.heap.size w w':=by
 have hpw:=iD (Zag g bn bs v S w h);have hp:Hid (S.powR=0):=iD (by simp[DS.powR,ho]);have c0:w.cell? ⟨g,0,none⟩=some (.map (some bn)):=by rw[h.blk.cell];rfl
 have hk:=iD (Zk0 (some bn) w);have hs:=iD (Zk1 w bn S.now h.now hl);clear h ho hl;go_enter func124,ntmps124;go_wp2_with fail;refine hpw.out.mono ?_;rintro e w1 ⟨rfl,rfl⟩;rw[hp.out];go_wp2_with fail;refine hk.out.mono ?_;rintro e w1 ⟨rfl,rfl⟩;go_wp2_with fail;refine hs.out.mono ?_;rintro e w1 ⟨v',rfl,hrow,hb⟩;replace hrow:=iD hrow;replace hb:=iD hb;go_wp2;go_ret;exact⟨_,rfl,hrow.out,hb.out⟩
end Go.Proofs.YtfdimggmljkkbaaGreatDoor
end
