import Derived.Shelf.Strings.Builder1
import Derived.Shelf.Small.Bits
import Derived.Shelf.Small.Strs
import Derived.Shelf.Strconv.Itoa0
import Derived.Shelf.Strings.Search1
import Derived.Shelf.Strings.Search2
import Derived.Shelf.Strings.Search3
import Derived.Shelf.Strings.Count
import Derived.Shelf.LaysM
import Derived.Shelf.Strings.Shaped
import Derived.Shelf.Strings.Prefix
import Derived.Shelf.Unicode.DecodeSlow
import Derived.RangeFuncOwn
import Derived.Lib.AppendStr
import Derived.Laws.Externs
import Derived.Shelf.Abstract
import Derived.Deep.RegionHeld3
import Derived.Lib.AppendZerosOnto
import Derived.Lib.AppendZeros
import Derived.Lib.Overlaps
import Derived.Test.YtfdimggmljkkbaaGreatDoorP04
open Bool renaming false_eq_true → kM
open ByteArray renaming size → nS
open Go renaming wpQuiet_nil → lY, run_underlying → l9, heap_alloc_new → nX, run_callFunc_extern → kC, run_loadCells_list → kX, run_storeCells_at → kY
open Go.Builtin renaming zeroCells → nC, firstCells → n2, append_ → k5
open Go.Ending renaming returned → kA
open Go.Extern.SlicesOverlaps renaming overlaps → k2
open Go.Instr renaming sliceAt → nO, index → n9, slice → kV, sliceBounds → kW
open Go.IntWalk renaming i64_in → kI
open Go.Lib renaming byteCells → lK, indexByte → l8, cell_of_heap → nI, compareBytes → nR, BuilderAt → nT, strCells → nU
open Go.Obj renaming cells → lJ
open Go.Op renaming slice → l3
open Go.Oper renaming upon_value → kD
open Go.Proofs.Tryz renaming prog → lA
open Go.Region renaming wanted → nM
open Go.Result renaming andThen → lQ, andThen_ok → kQ
open Go.RowKit.Below renaming refl → lG, heap_alloc → nZ
open Go.Sem renaming run_bind → kO, run_pure → kP
open Go.Shelf renaming Ren → l7
open Go.Value renaming slice → lC, string → lM, oneCell' → lR, ownBlock → lV, agg → l0
open Go.World renaming cell?_of_block → nN, block_lt_of_cell? → kR, shape? → k3
open List renaming length_append → lB, length_take → lD, length_drop → lE, length_cons → lF, getElem_mem → lL, mem_iff_getElem → lN, append_assoc → lO, getElem?_eq_some_iff → lP, takeWhile_cons → lS, take_length → lU, length_nil → lX, getElem?_eq_getElem → lZ, mem_append → l4, length_zip → l5, getElem_zip → l6, drop_zero → nA, take_append_drop → nB, take_take → nD, getElem?_take_of_lt → nE, mem_of_mem_drop → nF, take_succ_cons → nG, drop_succ_cons → nH, eq_nil_of_length_eq_zero → nJ, mem_of_mem_take → nK, take_left' → nP, getElem_drop → nQ, getElem?_eq_none → nY, getElem?_cons_zero → n0, getElem?_drop → n3, take_zero → n4, getElem_take → n5, mem_singleton → n6, zip_append → n7, take_succ_eq_append_getElem → n8, drop_eq_getElem_cons → kG, cons_append → kJ, nil_append → kK, take_of_length_le → kL, mem_of_find?_eq_some → kN, getElem?_append_left → kS, getElem?_append_right → kT, take_append_of_le_length → kZ, drop_left → k1, append_nil → k6, mem_cons → k7
open Nat renaming le_refl → lH, zero_le → lI, min → lT, lt_of_lt_of_le → nL, lt_or_ge → nV, le_trans → nW, add_zero → n1, eq_zero_or_pos → kH, sub_self → kU, min_self → k0, min_eq_left → k4
open Option renaming map_some → kE
open Option.some renaming injEq → lW
open Prod.mk renaming injEq → kF
open UInt8 renaming ofNat → kB
section
open Go.Proofs.Tryz
namespace Go.Proofs
open Go.Shelf
def Tryz.lays169_ren:l7:=⟨fun | 169=>231 | n=>n,fun | 70=>338 | 9=>9 | 0=>0 | 72=>340 | 37=>99 | 127=>367 | 3=>3 | 5=>5 | n=>n,fun | n=>n⟩
theorem Tryz.lays169:Go.Proofs.Lays.n169 lA Tryz.lays169_ren:={
 mixed:=by kernel_rfl
 f169:=func231.trans (congrArg some (by kernel_rfl))
 t0:=underlying0
 a0:=isAgg0
 z0:=sizeOf0
 v0:=zeroValue0
 t3:=underlying3
 a3:=isAgg3
 z3:=sizeOf3
 v3:=zeroValue3
 t9:=underlying9
 a9:=isAgg9
 z9:=sizeOf9
 v9:=zeroValue9
 t37:=underlying99
 a37:=isAgg99
 z37:=sizeOf99
 v37:=zeroValue99
 t70:=underlying338
 a70:=isAgg338
 z70:=sizeOf338
 v70:=zeroValue338
 t72:=underlying340
 a72:=isAgg340
 z72:=sizeOf340
 v72:=zeroValue340
 t127:=underlying367
 a127:=isAgg367
 z127:=sizeOf367
 v127:=zeroValue367 }
theorem Tryz.Builder_Extra_169:Builder.Extra lA Tryz.lays169_ren:={
 sizeBuilder:=by kernel_rfl
 liesBuilder:=by kernel_rfl
 t5:=underlying5
 a5:=isAgg5
 z5:=sizeOf5
 v5:=zeroValue5
 infoByte:=by kernel_rfl
 cellsByte:=by kernel_rfl
 sizeByte:=by kernel_rfl
 neB5:=by decide }
open Go.RowKit in
theorem Tryz.Builder_String_any(B b:Nat)(l:List UInt8)(w:World)(h:Lib.IsBuilder 340 5 B b (lK l) w)(hBw:B<=w.heap.size) :
  Calls lA 231 #[.pointer (some ⟨b,0,none⟩)] w fun e w'=>e=.returned (.string ⟨l.toArray⟩)/\Below B w w':=Any.Builder_String_any Tryz.lays169 Tryz.Builder_Extra_169 B b l w h hBw
def Tryz.lays125_ren:l7:=⟨fun | 125=>204 | 128=>255 | 129=>256 | n=>n,fun | 46=>277 | 3=>3 | 51=>279 | 53=>287 | 4=>4 | 5=>5 | 9=>9 | n=>n,fun | n=>n⟩
theorem Tryz.lays125:Go.Proofs.Lays.n125 lA Tryz.lays125_ren:={
 mixed:=by kernel_rfl
 f125:=func204.trans (congrArg some (by kernel_rfl))
 f128:=func255.trans (congrArg some (by kernel_rfl))
 f129:=func256.trans (congrArg some (by kernel_rfl))
 t3:=underlying3
 a3:=isAgg3
 z3:=sizeOf3
 v3:=zeroValue3
 t4:=underlying4
 a4:=isAgg4
 z4:=sizeOf4
 v4:=zeroValue4
 t5:=underlying5
 a5:=isAgg5
 z5:=sizeOf5
 v5:=zeroValue5
 t9:=underlying9
 a9:=isAgg9
 z9:=sizeOf9
 v9:=zeroValue9
 t46:=underlying277
 a46:=isAgg277
 z46:=sizeOf277
 v46:=zeroValue277
 t51:=underlying279
 a51:=isAgg279
 z51:=sizeOf279
 v51:=zeroValue279
 t53:=underlying287
 a53:=isAgg287
 z53:=sizeOf287
 v53:=zeroValue287 }
theorem Tryz.bits_Len(x:Int)(w:World)(h0:0<=x)(h1:x<=18446744073709551615) :
  Calls lA 204 #[.int .u64 x] w fun e w'=>e=.returned (.int .i64 (Lib.bitLen x.toNat))/\w'=w:=Any.bits_Len Tryz.lays125 x w h0 h1
def Tryz.lays106_ren:l7:=⟨fun | 106=>147 | 213=>205 | 265=>257 | n=>n,fun | 9=>9 | 3=>3 | n=>n,fun | n=>n⟩
theorem Tryz.lays106:Go.Proofs.Lays.n106 lA Tryz.lays106_ren:={
 mixed:=by kernel_rfl
 f106:=func147.trans (congrArg some (by kernel_rfl))
 f213:=func205.trans (congrArg some (by kernel_rfl))
 f265:=func257.trans (congrArg some (by kernel_rfl))
 t3:=underlying3
 a3:=isAgg3
 z3:=sizeOf3
 v3:=zeroValue3
 t9:=underlying9
 a9:=isAgg9
 z9:=sizeOf9
 v9:=zeroValue9 }
open Go.RowKit in
theorem Tryz.strings_Compare(a b:ByteArray)(w:World) :
  Calls lA 147 #[.string a,.string b] w fun e w'=>e=.returned (.int .i64 (nR a.data.toList b.data.toList))/\w'=w:=Any.strings_Compare Tryz.lays106 a b w
def Tryz.lays137_ren:l7:=⟨fun | 137=>88 | 217=>162 | 266=>214 | n=>n,fun | 9=>9 | 5=>5 | 3=>3 | n=>n,fun | n=>n⟩
theorem Tryz.lays137:Go.Proofs.Lays.n137 lA Tryz.lays137_ren:={
 mixed:=by kernel_rfl
 f137:=func88.trans (congrArg some (by kernel_rfl))
 f217:=func162.trans (congrArg some (by kernel_rfl))
 f266:=func214.trans (congrArg some (by kernel_rfl))
 t3:=underlying3
 a3:=isAgg3
 z3:=sizeOf3
 v3:=zeroValue3
 t5:=underlying5
 a5:=isAgg5
 z5:=sizeOf5
 v5:=zeroValue5
 t9:=underlying9
 a9:=isAgg9
 z9:=sizeOf9
 v9:=zeroValue9 }
open Go.RowKit in
theorem Tryz.strings_IndexByte(s:ByteArray)(c:Int)(w:World) :
  Calls lA 88 #[.string s,.int .u8 c] w fun e w'=>e=.returned (.int .i64 (l8 s.data.toList c.toNat.toUInt8))/\w'=w:=Any.strings_IndexByte Tryz.lays137 s c w
def Tryz.lays99_ren:l7:=⟨fun | 99=>90 | 206=>164 | n=>n,fun | 9=>9 | 4=>4 | 3=>3 | n=>n,fun | n=>n⟩
theorem Tryz.lays99:Go.Proofs.Lays.n99 lA Tryz.lays99_ren:={
 mixed:=by kernel_rfl
 f99:=func90.trans (congrArg some (by kernel_rfl))
 f206:=func164.trans (congrArg some (by kernel_rfl))
 t3:=underlying3
 a3:=isAgg3
 z3:=sizeOf3
 v3:=zeroValue3
 t4:=underlying4
 a4:=isAgg4
 z4:=sizeOf4
 v4:=zeroValue4
 t9:=underlying9
 a9:=isAgg9
 z9:=sizeOf9
 v9:=zeroValue9 }
open Go.RowKit Go.Lib in
theorem Tryz.strings_HasPrefix(s p:ByteArray)(w:World) :
  Calls lA 90 #[.string s,.string p] w fun e w'=>e=.returned (.bool (Lib.hasPrefix s.data.toList p.data.toList))/\w'=w:=Any.strings_HasPrefix Tryz.lays99 s p w
end Go.Proofs
end
section
set_option maxRecDepth 100000
set_option maxHeartbeats 4000000
open Go.Lib renaming hid → iD
open Go.Proofs.Tryz
section
namespace Go.Proofs.YtfdimggmljkkbaaGreatDoor
open Go.RowKit
def Z9d(x:Int)(c:UInt8):Prop :=
 (65<=x/\x<=90/\Xt c=true) ∨ (97<=x/\x<=122/\Xt c=true) ∨ (48<=x/\x<=57/\Xt c=true) ∨ (x=45/\Xt c=true) ∨ (x=95/\Xt c=true) ∨ (x=46/\Xt c=true) ∨ (x=35/\Xt c=true) ∨ (x=64/\Xt c=true) ∨ (x=126/\Xt c=true) ∨
 (Xt c=false/\(x ≠ 45/\x ≠ 95/\x ≠ 46/\x ≠ 35/\x ≠ 64/\x ≠ 126)/\(x<48 ∨ (57<x/\x<65) ∨ (90<x/\x<97) ∨ 122<x))
instance (x:Int) (c:UInt8):Decidable (Z9d x c):=by unfold Z9d;infer_instance
theorem Zg1{s:Str}{k:Nat}(hk:k<s.length)(h:(s.take k).all Xt=true)(hc:Xt s[k]=true):(s.take (k+1)).all Xt=true:=by
 rw[n8 hk,List.all_append,h];simp[hc]
theorem Zg2{s:Str}{k:Nat}(hk:k<s.length)(hc:Xt s[k]=false):Yi s=false:=by
 have : s.all Xt=false:=by
  rw[List.all_eq_false];exact⟨s[k],lL hk,by simp[hc]⟩
 simp[Yi,this]
theorem Zg3{s:Str}(h:s.all Xt=true):Yi s=(decide (1<=s.length) && decide (s.length<=24)):=by simp[Yi,h]
theorem Zg4(s:Str)(k:Nat)(hk:k<s.length)(w:World):(n9 9 (.string ⟨s.toArray⟩) (.int .i64 (k:Int))).run lA w=.ok (.int .u8 (bv s[k])) w:=by
 have h0:(⟨s.toArray⟩:ByteArray)[k]?=some s[k]:=by
  have hs:k<(⟨s.toArray⟩:ByteArray).size:=by simpa[nS] using hk
  rw[getElem?_pos (⟨s.toArray⟩:ByteArray) k hs];rfl
 simp[n9,asIntOf,l9 underlying9,h0,bv]
theorem Z53(s:Str):(⟨s.toArray⟩:ByteArray).size=s.length:=by simp[nS]
theorem Z1a{a b:Bool}(h:a=b):kA (.bool a)=.returned (.bool b):=by rw[h]
end Go.Proofs.YtfdimggmljkkbaaGreatDoor
end
section
namespace Go.Proofs.YtfdimggmljkkbaaGreatDoor
open Go.RowKit
def letters:List UInt8:=[65,66,67,68,69,70,71,72,73,74,75,76,77,78,79,80,81,82,83,84,85,86,87,88,89,90,97,98,99,100,101,102,103,104,105,106,107,108,109,110,111,112,113,114,115,116,117,118,119,120,121,122,48,49,50,51,52,53,54,55,56,57,45,95,46,35,64,126]
theorem Zg5:∀ n:Fin 256,decide (l8 letters (kB n.1)<0) = !Xt (kB n.1):=by decide +kernel
theorem letIx(c:UInt8):decide (l8 letters c<0) = !Xt c:=by
 have:=Zg5 ⟨c.toNat,c.toNat_lt⟩;simpa using this
theorem Zg6(c:UInt8)(w:World):Calls lA 88 #[.string ⟨letters.toArray⟩,.int .u8 (bv c)] w fun e w'=>e=.returned (.int .i64 (l8 letters c))/\w=w':=by
 have h:=Tryz.strings_IndexByte ⟨letters.toArray⟩ (bv c) w;have e:(bv c).toNat.toUInt8=c:=by unfold bv;simp
 rw[e] at h;exact h.mono fun e w' ⟨h1,h2⟩=>⟨h1,h2.symm⟩
theorem Od(s:Str)(w:World)(hs:s.length<=140737488355328) :
  Calls lA 30 #[Z0 s] w fun e w'=>e=.returned (.bool (Yi s))/\w=w':=by
 unfold Z0;have hsl:=Z53 s;go_enter func30,ntmps30;go_wp2;go_loopw [6] (fun i wr=>∃ k:Nat,k<=s.length/\i=.int .i64 k/\Hid ((s.take k).all Xt=true)/\Hid (w=wr)) (fun i _=>s.length - (intOf i).toNat)
 case atStart=>exact⟨0,lI _,rfl,iD (by simp),iD rfl⟩
 case round =>
  obtain⟨k,hk,rfl,ha,hw⟩:=hrel;by_cases hlt:k<s.length
  ·have hidx:=Zg4 s k hlt;have hix:=letIx s[k];have hc:=Zg6 s[k];obtain⟨x,hx⟩:∃ x,x=bv s[k]:=⟨_,rfl⟩;obtain⟨y,hy⟩:∃ y,y=l8 letters s[k]:=⟨_,rfl⟩;rw[<-hx] at hidx hc;rw[<-hy] at hix hc;clear hx hy;replace hc:=iD hc;cases hL:Xt s[k] with
   | true =>
    rw[hL] at hix;have d1:decide (y<0)=false:=hix;have hnext:=iD (Zg1 hlt ha.out hL);clear hL hix;go_wp2_with ((go_at_call 88;refine (hc.out _).mono ?_;rintro e w' ⟨rfl,rfl⟩));go_roundw
    case rel=>exact⟨k+1,by omega,by go_num,hnext,hw⟩
    case measure=>simp[intOf];omega
   | false =>
    rw[hL] at hix;have d1:decide (y<0)=true:=hix;have hbad:=iD (Zg2 hlt hL);clear hL hix;go_wp2_with ((go_at_call 88;refine (hc.out _).mono ?_;rintro e w' ⟨rfl,rfl⟩));go_ret;exact⟨Z1a hbad.out.symm,hw.out⟩
  ·obtain rfl:k=s.length:=by omega
   have hall:Hid (s.all Xt=true):=iD (by have:=ha.out;rwa [lU] at this);have he:=iD (Zg3 hall.out);by_cases h1:1<=s.length
   ·have d1:decide (1<=(s.length:Int))=true:=decide_eq_true (by omega);have e1:Hid (Yi s=decide ((s.length:Int)<=24)):=iD (by rw[he.out,decide_eq_true h1,Bool.true_and];simp;omega);go_wp2;go_ret;exact⟨Z1a e1.out.symm,hw.out⟩
   ·have d1:decide (1<=(s.length:Int))=false:=decide_eq_false (by omega);have e1:Hid (Yi s=false):=iD (by rw[he.out,decide_eq_false h1];rfl);go_wp2;go_ret;exact⟨Z1a e1.out.symm,hw.out⟩
end Go.Proofs.YtfdimggmljkkbaaGreatDoor
end
section
namespace Go.Proofs.YtfdimggmljkkbaaGreatDoor
open Go.RowKit
def BIs(B b:Nat)(s:Str)(w:World):Prop:=Lib.IsBuilder 340 5 B b (lK s) w
def BAt(B b:Nat)(s:Str)(w:World):Prop:=nT 340 5 B b (.pointer (some ⟨b,0,none⟩)) (lK s) w
theorem Z9e:(lA.info? 340).map (·.size)=some 2:=by kernel_rfl
theorem Zg7(b:Nat)(w:World)(h0:w.cell? ⟨b,0,none⟩=some (.pointer (some ⟨b,0,none⟩))) :
  Calls lA 262 #[.pointer (some ⟨b,0,none⟩)] w fun e w'=>e=.returned (.tuple #[])/\w=w':=by
 obtain⟨j,hj,_⟩:=Option.map_eq_some_iff.1 Z9e;have hq:=Lib.run_neq_ptr_same (P:=lA) w ⟨b,0,none⟩ underlying338 hj;go_enter func262,ntmps262;go_wp2;go_end0;exact⟨rfl,rfl⟩
theorem Zg8(b:Nat)(w:World)(h0:w.cell? ⟨b,0,none⟩=some (.pointer none))(hsh:w.shape? b=some (340,2))(hfz:w.frozen? ⟨b,0,none⟩=false) :
  Calls lA 262 #[.pointer (some ⟨b,0,none⟩)] w fun e w'=>e=.returned (.tuple #[])/\w'=w.setCell ⟨b,0,none⟩ (.pointer (some ⟨b,0,none⟩)):=by
 obtain⟨j,hj,hjs⟩:=Option.map_eq_some_iff.1 Z9e;have c1:=Lib.run_to_unsafe (P:=lA) w ⟨b,0,none⟩ underlying338 underlying387 hj (by rw[hjs];decide) hsh (Nat.zero_lt_succ 1);have c2:=Lib.run_from_unsafe (P:=lA) w ⟨b,0,none⟩ underlying387 underlying338 hj hsh (by kernel_rfl);go_enter func262,ntmps262;go_wp2;rw[kC func286 (by kernel_rfl) (by kernel_rfl) (by kernel_rfl) (e:=Extern.AbiNoEscape.same) (by kernel_rfl)];rw[Lib.run_noEscape];simp only[lQ];rw[kD];go_wp2;go_end0;exact⟨rfl,rfl⟩
structure KeepTag (w w':World):Prop where
 blk:∀ g t cs,Blk w g t cs->t ≠ 340->t ≠ 5->Blk w' g t cs
 other:∀ (k:Nat) (o:Obj),w.heap[k]?=some o->o.isCells=false->w'.heap[k]?=some o
theorem KeepTag.refl(w:World):KeepTag w w:=⟨fun _ _ _ h _ _=>h,fun _ _ h _=>h⟩
theorem KeepTag.trans{w w1 w2:World}(h:KeepTag w w1)(h':KeepTag w1 w2):KeepTag w w2:=⟨fun _ _ _ hb h1 h2=>h'.blk _ _ _ (h.blk _ _ _ hb h1 h2) h1 h2,fun _ _ ho hc=>h'.other _ _ (h.other _ _ ho hc) hc⟩
theorem KeepTag.set_{w:World}{b i:Nat}{cs:Array Value}(hb:w.heap[b]?=some (.cells cs 340 (0,0)))(u:Value):KeepTag w (w.setCell ⟨b,i,none⟩ u):=⟨fun g _ _ hB h1 _ =>
 hB.far (p:=⟨b,i,none⟩) (fun e=>by
  have e':g=b:=e;subst e';unfold Blk at hB;rw[hb] at hB
  injection hB with hB
  injection hB with _ ht
  exact h1 ht.symm) u,(KeepsOthers.setCell w _ u).same⟩
theorem KeepTag.grown{w w':World}{B:Nat}{v:Value}{n:Nat}{xs:List Value}(ho:w.ownsRow B 5 1 v n xs)(h:w.grownBy w' v.ownBlock):KeepTag w w':=⟨fun g _ _ hB _ h2 =>
 hB.grown h (fun e=>by
  rcases ho.2 with ⟨rfl,_⟩ | ⟨g',cap,cur,rfl,_,hg,_⟩
  ·cases e
  ·have e':g=g':=by simpa[lV] using e
   subst e';unfold Blk at hB;rw[hg] at hB
   injection hB with hB
   injection hB with _ ht
   exact h2 ht.symm),(KeepsOthers.of_grownBy h (fun j o e hj=>by
  rcases ho.2 with ⟨rfl,_⟩ | ⟨g',cap,cur,rfl,_,hg,_⟩
  ·cases e
  ·have e':g'=j:=by simpa[lV] using e
   subst e';rw[hg] at hj;cases hj
   rfl)).same⟩
theorem Zg9(B b:Nat)(s:Str)(w:World)(h:BIs B b s w) :
  Calls lA 262 #[.pointer (some ⟨b,0,none⟩)] w fun e w'=>e=.returned (.tuple #[])/\BAt B b s w'/\Below B w w'/\KeepTag w w':=by
 rcases h with h | h
 ·refine (Zg8 b w h.cell0 h.shape h.frozen0).mono ?_;rintro e w' ⟨rfl,rfl⟩;refine⟨rfl,h.used _,(lG B w).setCell (p:=⟨b,0,none⟩) h.1 _,?_⟩;obtain⟨_,v,hbk,_⟩:=h;exact KeepTag.set_ hbk _
 ·refine (Zg7 b w h.cell0).mono ?_;rintro e w' ⟨rfl,rfl⟩;exact⟨rfl,h,lG B _,KeepTag.refl _⟩
theorem Zga:∃ i,lA.info? 5=some i/\i.zero=some (.int .u8 0)/\i.size=1/\i.bytes=1:=by
 have h:=Z2f.info;cases hq:lA.info? 5 with
 | none=>simp[hq] at h
 | some i =>
  simp only[hq,kE,lW,kF] at h;exact⟨i,rfl,h.1,h.2.1,h.2.2⟩
theorem Zgb(s:Str):(lK s).length=s.length:=by simp[lK]
theorem Zgc(s t:Str):lK (s++t)=lK s++nU ⟨t.toArray⟩:=by simp[lK,nU]
theorem Z54(B b:Nat)(s t:Str)(w:World)(h:BIs B b s w)(hl:s.length+t.length<=140737488355328)(hBw:B<=w.heap.size) :
  Calls lA 230 #[.pointer (some ⟨b,0,none⟩),.string ⟨t.toArray⟩] w fun e w'=>e=.returned (.tuple #[.int .i64 t.length,.nilIface])/\BIs B b (s++t) w'/\Below B w w'/\KeepTag w w':=by
 obtain⟨i0,hi,hz0,hz1,hz2⟩:=Zga;have hcc:=iD (Zg9 B b s w h);have htl:(⟨t.toArray⟩:ByteArray).size=t.length:=by simp[nS]
 have hcl:=iD (Zgb s);have happ:=iD (Zgc s t);replace hi:=iD hi;replace hz0:=iD hz0;replace hz1:=iD hz1;replace hz2:=iD hz2;clear h;go_enter func230,ntmps230;go_wp2_with fail;refine hcc.out.mono ?_;rintro e w1 ⟨rfl,h1,hb1,hk1⟩;replace hk1:=iD hk1;obtain⟨hB,v,hbk,hown,hne⟩:=h1;have c0:w1.cell? ⟨b,0,none⟩=some (.pointer (some ⟨b,0,none⟩)):=by rw[nI hbk];rfl
 have c1:w1.cell? ⟨b,1,none⟩=some v:=by rw[nI hbk];rfl
 have hs1:=hb1.size;replace hown:=iD hown;replace hbk:=iD hbk;replace hne:=iD hne;replace hb1:=iD hb1;go_wp2_with (at_builtin;refine Lib.wpList_append_own_string _ rfl _ _ 99 9 rfl B 5 i0 underlying99 underlying9 hi.out hz0.out hz1.out hz2.out _ _ _ rfl hown.out ⟨t.toArray⟩ rfl ?c3 ?c4 ?c5 ?_)
 case c3=>rw[hcl.out,htl];unfold maxLen;omega
 case c4=>rw[hcl.out,htl];omega
 case c5=>omega
 intro v' w2 hown' hgrow _;have hlt:b<w1.heap.size:=by
  rcases nV b w1.heap.size with h' | h'
  ·exact h'
  ·have:=hbk.out;simp[Array.getElem?_eq_none h'] at this
 have hb2:w2.heap[b]?=some (.cells #[.pointer (some ⟨b,0,none⟩),v] 340 (0,0)):=by
  rw[hgrow.block b hlt (fun e=>hne.out e.symm)];exact hbk.out
 have d0:w2.cell? ⟨b,0,none⟩=some (.pointer (some ⟨b,0,none⟩)):=by rw[nI hb2];rfl
 have d1:w2.cell? ⟨b,1,none⟩=some v:=by rw[nI hb2];rfl
 have f1:w2.frozen? ⟨b,1,none⟩=false:=Lib.frozen_of_heap hb2 1;obtain⟨ao,n',cap,rfl⟩:∃ ao n' cap,v'=.slice ao n' cap:=by
  rcases hown'.2 with ⟨hv,_⟩ | ⟨g,cap,cur,hv,_⟩
  ·exact⟨_,_,_,hv⟩
  ·exact⟨_,_,_,hv⟩
 replace hown':=iD hown';replace hgrow:=iD hgrow;replace hb2:=iD hb2;go_wp2;go_ret2;refine⟨by rw[<-htl];rfl,.inr ?_,?_,(hk1.out.trans (KeepTag.grown hown.out hgrow.out)).trans (KeepTag.set_ hb2.out _)⟩
 ·rw[happ.out];exact nT.put (T:=340) (e:=5) hB hb2.out (bs':=lK s++nU ⟨t.toArray⟩) (by rw[lB,Lib.strCells_length,htl];exact hown'.out) (by decide)
 ·exact (hb1.out.grown hgrow.out (nW hBw hs1) (fun k hk=>(hown.out.lt k hk).1)).setCell (p:=⟨b,1,none⟩) hB _
end Go.Proofs.YtfdimggmljkkbaaGreatDoor
end
section
namespace Go.Proofs.YtfdimggmljkkbaaGreatDoor
open Go.RowKit
def Qz(T:Tab):Nat->Option Str
 | 0=>none
 | k+1=>(T[k]?).map (·.name)
theorem Z9f(T:Tab)(k:Nat)(hk:k<T.length):Qz T (k+1)=some T[k].name:=by simp[Qz,hk]
theorem Zgd(T:Tab)(k:Nat)(hk:k<T.length):J5 (Qz T k) (T.drop k) =
  if Yi T[k].name then (if Gy (Qz T k) T[k].name then (if T[k].heads=[] then 5 else if Ym T[k].heads=0 then J5 (Qz T (k+1)) (T.drop (k+1)) else Ym T[k].heads) else 7) else 11:=by
 rw[Z9f T k hk]
 conv=>lhs;rw[kG hk]
 rfl
theorem Zge(p:Option Str):J5 p []=0:=by cases p <;> rfl
def Xg:List Value:=[.string ⟨#[]⟩,.slice none 0 0]
theorem Z2v(w:World)(T:TypeId)(z cs:List Value):Blk ((w.alloc (.cells z.toArray T)).setRow w.heap.size cs.toArray) w.heap.size T cs/\Below w.heap.size w ((w.alloc (.cells z.toArray T)).setRow w.heap.size cs.toArray) :=
 ⟨(Blk.new_at (cs:=z) rfl).setRow_same cs,below_setRow bL (lH _) _⟩
theorem toL(a:Str):(⟨a.toArray⟩:ByteArray).toList=a:=by rw[Lib.toList_data]
attribute [local go_sem] toL
theorem Z05{a b:Int}(h:a=b):kA (.int .i64 a)=.returned (.int .i64 b):=by rw[h]
theorem Z9g(T:Tab)(v:Value)(ok:Nat->Prop)(w:World)(h:TabIs w ok v T)(hf:TFit T) :
  Calls lA 180 #[v] w fun e w'=>e=.returned (.int .i64 (Yu T))/\Below w.heap.size w w':=by
 obtain⟨A,c,rfl,hc⟩:=h.form;have hlen:T.length<=3518437208832:=hf.len;have hok:=iD hf.ok;replace h:=iD h;clear hc hf;by_cases h32:32<T.length
 ·have he:Hid (Yu T=4):=iD (by unfold Yu;rw[if_pos h32]);go_enter func180,ntmps180;go_wp2;go_ret;exact⟨Z05 he.out.symm,lG _ _⟩
 ·have h32':T.length<=32:=by omega
  have he:Hid (Yu T=J5 none T):=iD (by unfold Yu;rw[if_neg h32]);clear h32;go_enter func180,ntmps180;go_wp2;go_loopw [11] (fun i wr=>∃ k:Nat,k<=T.length/\i=.int .i64 k/\Hid (J5 none T=J5 (Qz T k) (T.drop k))/\Below w.heap.size w wr) (fun i _=>T.length - (intOf i).toNat)
  case atStart=>exact⟨0,lI _,rfl,iD rfl,lG _ _⟩
  case round =>
   obtain⟨k,hk,rfl,hm,hb⟩:=hrel;by_cases hlt:k<T.length
   ·have hw0:=h.out.stayB hb;obtain⟨b,o,u,rfl,_,hbl,hU,c0,c1⟩:=hw0.br k hlt;have hat:=Zgd T k hlt;rw[<-hm.out] at hat;have hbf:=hok.out T[k] (lL hlt);obtain⟨n,hn⟩:∃ n,n=T[k].name:=⟨_,rfl⟩;obtain⟨hs,hhs⟩:∃ hs,hs=T[k].heads:=⟨_,rfl⟩;have hnl:n.length<=140737488355328:=by rw[hn];exact hbf.name
    have hhf:HFit hs:=by rw[hhs];exact hbf.heads
    rw[<-hn,<-hhs] at hat;rw[<-hn] at c0;rw[<-hhs] at hU;obtain⟨UA,uc,rfl,huc,_⟩:=id hU;have hhl:hs.length<=4398046511104:=hhf.len;have hcells:=iD (Z11 c0 c1);obtain⟨hB1,hb1⟩:=Z2v wr 192 Xg [Z0 n,.slice UA hs.length uc];obtain⟨W1,hW1⟩:∃ W1,W1=(wr.alloc (.cells Xg.toArray 192)).setRow wr.heap.size [Z0 n,.slice UA hs.length uc].toArray:=⟨_,rfl⟩;rw[<-hW1] at hB1 hb1;replace hW1:=iD hW1;have hone:Hid (∀ v ∈ [Z0 n,lC UA hs.length uc],v.oneCell'=true):=iD (by simp[Z0,lR]);have hnm:=iD (Od n W1 hnl);have hU1:=hU.stayB hb1;have hbW:=hb.trans (hb1.mono hb.size);replace hat:=iD hat;have hbs:=hb1.size;have hgl:wr.heap.size<W1.heap.size:=hB1.lt;have d0:W1.cell? ⟨wr.heap.size,0,none⟩=some (.string ⟨n.toArray⟩):=by rw[hB1.cell];rfl
    have d1:W1.cell? ⟨wr.heap.size,1,none⟩=some (.slice UA hs.length uc):=by rw[hB1.cell];rfl
    have i1:(0:Int)<=(k:Int):=by omega
    have i2:(k:Int)<(T.length:Int):=by omega
    have hp:Hid (0<k->∃ p,Gy (Qz T k) n=Ze p n/\W1.cell? ⟨b,o+(k - 1)*2,none⟩=some (.string ⟨p.toArray⟩)):=iD (fun h0=>by
     obtain⟨b',o',u',e',_,hbl',_,c0',_⟩:=hw0.br (k - 1) (by omega);cases e'
     refine⟨T[k - 1].name,?_,?_⟩
     ·obtain⟨j,rfl⟩:∃ j,k=j+1:=⟨k - 1,by omega⟩;rw[Z9f T j (by omega)];rfl
     ·rw[hb1.cell (p:=⟨b,_,none⟩) hbl'];exact c0')
    clear hn hhs hbf hw0 c0 c1 hm hU;cases hno:Yi n with
    | false =>
     rw[hno] at hnm hat;have hfin:Hid (Yu T=11):=iD (by rw[he.out,hat.out];rfl);clear hno hat;go_wp2_with (first
      | (refine Vv 192 (.tmp 14) rfl rfl b (o+k*2) rfl [Z0 n,.slice UA hs.length uc] hcells.out _ underlying192 rfl X7 ?_;go_frame)
      | (refine Zo rfl 192 (.tmp 4) (.tmp 15) rfl wr.heap.size [Z0 n,.slice UA hs.length uc] rfl rfl 192 Xg (Blk.new_at rfl) rfl X7 hone.out ?_;rw[show (wr.alloc (lJ #[lM ⟨#[]⟩,lC none 0 0] 192)).setRow wr.heap.size [Z0 n,.slice UA hs.length uc].toArray=W1 from hW1.out.symm];go_frame)
      | (go_at_call 30;refine hnm.out.mono ?_;rintro e w' ⟨rfl,rfl⟩))
     go_ret;exact⟨Z05 hfin.out.symm,hbW⟩
    | true =>
     rw[hno] at hnm hat;replace hat:Hid (J5 none T=if Gy (Qz T k) n then (if hs=[] then 5 else if Ym hs=0 then J5 (Qz T (k+1)) (T.drop (k+1)) else Ym hs) else 7):=iD (by rw[hat.out,if_pos rfl]);clear hno;go_wp2_with (first
      | (refine Vv 192 (.tmp 14) rfl rfl b (o+k*2) rfl [Z0 n,.slice UA hs.length uc] hcells.out _ underlying192 rfl X7 ?_;go_frame)
      | (refine Zo rfl 192 (.tmp 4) (.tmp 15) rfl wr.heap.size [Z0 n,.slice UA hs.length uc] rfl rfl 192 Xg (Blk.new_at rfl) rfl X7 hone.out ?_;rw[show (wr.alloc (lJ #[lM ⟨#[]⟩,lC none 0 0] 192)).setRow wr.heap.size [Z0 n,.slice UA hs.length uc].toArray=W1 from hW1.out.symm];go_frame)
      | (go_at_call 30;refine hnm.out.mono ?_;rintro e w' ⟨rfl,rfl⟩))
     rcases kH k with hk0 | hk1
     focus
      subst hk0;have g0:decide (0<((0:Nat):Int))=false:=by simp
      replace hat:Hid (J5 none T=if hs=[] then 5 else if Ym hs=0 then J5 (Qz T (0+1)) (T.drop (0+1)) else Ym hs):=iD (by rw[hat.out];rfl);go_quiet (fail)
     rotate_left
     focus
      have g0:decide (0<(k:Int))=true:=by simpa using hk1
      obtain⟨p,hpo,cp⟩:=hp.out hk1;obtain⟨t,ht⟩:∃ t,t=Ze p n:=⟨_,rfl⟩;have htl:Op.bytesLess p n=t:=ht.symm;rw[hpo,<-ht] at hat;clear hpo ht;have e1:IntKind.i64.wrap ((k:Int) - 1)=(k:Int) - 1:=kI _ (by omega);have e2:(0:Int)<=(k:Int) - 1:=by omega
      have e3:(k:Int) - 1<(T.length:Int):=by omega
      have e4:((k:Int) - 1).toNat=k - 1:=by omega
      go_quiet (fail);cases t
      ·have hfin:Hid (Yu T=7):=iD (by rw[he.out,hat.out];rfl);clear hat;go_wp2;go_ret;exact⟨Z05 hfin.out.symm,below_drewN hbW nq⟩
      replace hat:Hid (J5 none T=if hs=[] then 5 else if Ym hs=0 then J5 (Qz T (k+1)) (T.drop (k+1)) else Ym hs):=iD (by rw[hat.out,if_pos rfl]);clear e1 e2 e3 e4 htl cp
     all_goals
      have hB2:Blk (W1.drewN nq) wr.heap.size 192 [Z0 n,.slice UA hs.length uc]:=hB1.drewN nq;have hb2:Below w.heap.size w (W1.drewN nq):=below_drewN hbW nq;have hU2:Z7 (W1.drewN nq) ok (.slice UA hs.length uc) hs:=hU1;replace hU2:=iD hU2;clear hU1 hB1 hb1 hbW d0 d1 hW1 hp hnm hbs hgl g0;generalize W1.drewN nq=W2 at hB2 hb2 hU2 ⊢;have d1:W2.cell? ⟨wr.heap.size,1,none⟩=some (.slice UA hs.length uc):=by rw[hB2.cell];rfl
      clear hB2;by_cases h0:hs.length=0
      ·have g1:((hs.length:Int) == 0)=true:=by simp[h0]
       have hfin:Hid (Yu T=5):=iD (by rw[he.out,hat.out,if_pos (nJ h0)]);clear hat h0;go_wp2;go_ret;exact⟨Z05 hfin.out.symm,hb2⟩
      ·have g1:((hs.length:Int) == 0)=false:=by rw[beq_eq_false_iff_ne];omega
       have hne:hs ≠ []:=fun e=>h0 (by rw[e];rfl);have hat2:=hat.out;rw[if_neg hne] at hat2;have hcall:=iD (Z8v hs _ ok W2 hU2.out hhf);obtain⟨x,hx⟩:∃ x,x=Ym hs:=⟨_,rfl⟩;rw[<-hx] at hat2 hcall;clear hat h0 hne hx;by_cases hx0:x=0
       ·subst hx0;have hnext:=iD (hat2.trans (if_pos rfl));clear hat2;go_wp2_with ((go_at_call 225;refine hcall.out.mono ?_;rintro e w3 ⟨rfl,hb3⟩));go_roundw
        case rel=>first | exact⟨k+1,by omega,by go_num,hnext,hb2.trans (hb3.mono hb2.size)⟩ | exact⟨0+1,by omega,by go_num,hnext,hb2.trans (hb3.mono hb2.size)⟩
        case measure=>simp[intOf];omega
       ·have g2:(x != 0)=true:=by simpa using hx0
        have hfin:Hid (Yu T=x):=iD (by rw[he.out,hat2,if_neg hx0]);clear hat2 hx0;go_wp2_with ((go_at_call 225;refine hcall.out.mono ?_;rintro e w3 ⟨rfl,hb3⟩));go_ret;exact⟨Z05 hfin.out.symm,hb2.trans (hb3.mono hb2.size)⟩
   ·obtain rfl:k=T.length:=by omega
    have hf:Hid (Yu T=0):=iD (by rw[he.out,hm.out,List.drop_length,Zge]);go_wp2;go_ret;exact⟨Z05 hf.out.symm,hb⟩
end Go.Proofs.YtfdimggmljkkbaaGreatDoor
end
section
section
namespace Go.Proofs.YtfdimggmljkkbaaGreatDoor
open Go.RowKit
theorem Zgf(l:List Str)(d:Str):K8 (l++[d])=K8 l++(32 :: Xy d):=by simp[K8]
theorem Z1b:∀ {l:List Str},hOk l->(K8 l).length=l.length*65
 | [],_=>rfl
 | d :: l,h=>by
  have ih:=Z1b (l:=l) (fun x hx=>h x (by simp[hx]));have hd:(Xy d).length=64:=by rw[Z0u,h d (by simp)]
  show ((32 :: Xy d)++K8 l).length=_;rw[lB,ih,lF,hd,lF];omega
theorem Zgg(T:Tab)(b:Br):Jh (T++[b])=Jh T++Gz b:=by simp[Jh]
theorem Z9h{b:Br}(hb:bOk b)(ho:hOk b.heads):(Gz b).length<=545:=by
 obtain⟨h1,_,h3⟩:=hb;have h4:b.name.length<=24:=by
  simp only[Yi,Bool.and_eq_true,decide_eq_true_eq] at h1;exact h1.2
 have h5:b.heads.length<=8:=by
  unfold Ym at h3;split at h3
  ·cases h3
  ·omega
 unfold Gz;rw[lB,lB,Z1b ho];simp;omega
theorem Z2w:∀ {T:Tab},(∀ b ∈ T,bOk b)->tOk T->(Jh T).length<=T.length*545
 | [],_,_=>by simp[Jh]
 | b :: T,h,ho=>by
  have ih:=Z2w (T:=T) (fun x hx=>h x (by simp[hx])) (fun x hx=>ho x (by simp[hx]));have hb:=Z9h (h b (by simp)) (ho b (by simp));show (Gz b++Jh T).length<=_;rw[lB,lF];omega
end Go.Proofs.YtfdimggmljkkbaaGreatDoor
end
section
namespace Go.Proofs.YtfdimggmljkkbaaGreatDoor
open Go.RowKit
def Xk(T:Tab):Str:=if Yu T=0 then Jh T else []
theorem Oe{α:Type}{l:List α}{k:Nat}(h:k<l.length):l.take (k+1)=l.take k++[l[k]]:=n8 h
theorem Z55{B b:Nat}{s:Str}{w w':World}(h:BIs B b s w)(hb:Below w.heap.size w w'):BIs B b s w':=by
 have key:∀ p,nT 340 5 B b p (lK s) w->nT 340 5 B b p (lK s) w':=by
  rintro p ⟨hB,v,hbk,hown,hne⟩;have hlt:b<w.heap.size:=(Array.getElem?_eq_some_iff.1 hbk).1;exact⟨hB,v,(hb.block b hlt).trans hbk,Zk (L:=[]) hown (Touch.ofBelow hb) (by simp),hne⟩
 rcases h with h | h
 ·exact .inl (key _ h)
 ·exact .inr (key _ h)
theorem Zgh(a b:Str):((⟨a.toArray⟩:ByteArray)++⟨b.toArray⟩)=⟨(a++b).toArray⟩:=by
 apply ByteArray.ext;simp
theorem Zgi(T:Tab)(v:Value)(ok:Nat->Prop)(w:World)(h:TabIs w ok v T)(hf:TFit T) :
  Calls lA 184 #[v] w fun e w'=>e=.returned (.tuple #[Z0 (Xk T),.int .i64 (Yu T)])/\Below w.heap.size w w':=by
 obtain⟨A,c,rfl,hc⟩:=h.form;have hmay:=iD (Z9g T _ ok w h hf);have hlen:T.length<=3518437208832:=hf.len;unfold Z0;by_cases hm:Yu T=0
 ·have hpt:Hid (Xk T=Jh T):=iD (by unfold Xk;rw[if_pos hm]);have hbk:=iD ((O7 T).1 hm);have hpl:=Z2w hbk.out.2.1 (fun b hb=>(hf.ok b hb).heads.ok);have hl32:T.length<=32:=hbk.out.1;rw[hm] at hmay ⊢;have hok:=iD hf.ok;replace h:=iD h;clear hm hf hc;go_enter func184,ntmps184;go_wp2_with fail;refine hmay.out.mono ?_;rintro e w1 ⟨rfl,hb1⟩;have h1:=iD (h.out.stayB hb1).ltB;replace hb1:=iD hb1;clear hmay h;go_wp2_with fail;have hbis:BIs w1.heap.size w1.heap.size [] (w1.alloc (lJ #[Value.pointer none,lC none 0 0] 340)) :=
   .inl ⟨lH _,_,nX w1 _,World.ownsRow_nil _ _ _ _,by simp[lV]⟩
  go_loopw [17] (fun i wr=>∃ k:Nat,k<=T.length/\i=.int .i64 k/\BIs w1.heap.size w1.heap.size (Jh (T.take k)) wr/\Below w1.heap.size w1 wr) (fun i _=>T.length - (intOf i).toNat)
  case atStart=>exact⟨0,lI _,rfl,hbis,bL⟩
  case round =>
   clear hbis;obtain⟨k,hk,rfl,hB,hb⟩:=hrel;by_cases hlt:k<T.length
   ·have hw0:=h1.out.low hb;obtain⟨b,o,u,rfl,_,hbl,hU,c0,c1⟩:=hw0.br k hlt;have hbf:=hok.out T[k] (lL hlt);have hbo:=hbk.out.2.1 T[k] (lL hlt);have hpre:=Z2w (T:=T.take k) (fun x hx=>hbk.out.2.1 x (nK hx)) (fun x hx=>(hok.out x (nK hx)).heads.ok);have hline:=Z9h hbo hbf.heads.ok;have hsucc:Hid (Jh (T.take (k+1))=Jh (T.take k)++(T[k].name++K8 T[k].heads++[10])):=iD (by rw[Oe hlt,Zgg];rfl);unfold Gz at hline;obtain⟨n,hn⟩:∃ n,n=T[k].name:=⟨_,rfl⟩;obtain⟨hs,hhs⟩:∃ hs,hs=T[k].heads:=⟨_,rfl⟩;obtain⟨pre,hpr⟩:∃ pre,pre=Jh (T.take k):=⟨_,rfl⟩;have hho:hOk hs:=by rw[hhs];exact hbf.heads.ok
    have hhl:hs.length<=4398046511104:=by rw[hhs];exact hbf.heads.len
    rw[<-hn,<-hhs] at hsucc hline;rw[<-hpr] at hsucc hpre hB;rw[<-hn] at c0;rw[<-hhs] at hU;clear hn hhs hpr hbf hbo;have hpl2:pre.length<=17440:=by rw[lD] at hpre;omega
    simp only[lB,lF,lX] at hline;obtain⟨UA,uc,rfl,huc,_⟩:=id hU;have hcells:=iD (Z11 c0 c1);obtain⟨hX1,hbx1⟩:=Z2v wr 192 Xg [Z0 n,.slice UA hs.length uc];obtain⟨W1,hW1⟩:∃ W1,W1=(wr.alloc (.cells Xg.toArray 192)).setRow wr.heap.size [Z0 n,.slice UA hs.length uc].toArray:=⟨_,rfl⟩;rw[<-hW1] at hX1 hbx1;replace hW1:=iD hW1;have hone:Hid (∀ v ∈ [Z0 n,lC UA hs.length uc],v.oneCell'=true):=iD (by simp[Z0,lR]);have hB1:=Z55 hB hbx1;have hU1:=hU.low (hbx1.mono hb.size);have hbW:=hb.trans (hbx1.mono hb.size);have d0:W1.cell? ⟨wr.heap.size,0,none⟩=some (.string ⟨n.toArray⟩):=by rw[hX1.cell];rfl
    have i1:(0:Int)<=(k:Int):=by omega
    have i2:(k:Int)<(T.length:Int):=by omega
    have hgl:=hX1.lt;replace hho:=iD hho;have hws:=iD (Z54 w1.heap.size w1.heap.size pre n W1 hB1 (by omega) hbW.size);replace hX1:=iD hX1;replace hU1:=iD hU1;replace hbW:=iD hbW;replace hpre:=iD hpre;clear hw0 c0 c1 hU hB hB1 hb hbx1;go_wp2_with (first
     | (refine Vv 192 (.tmp 19) rfl rfl b (o+k*2) rfl [Z0 n,.slice UA hs.length uc] hcells.out _ underlying192 rfl X7 ?_;go_frame)
     | (refine Zo rfl 192 (.tmp 7) (.tmp 20) rfl wr.heap.size [Z0 n,.slice UA hs.length uc] rfl rfl 192 Xg (Blk.new_at rfl) rfl X7 hone.out ?_;rw[show (wr.alloc (lJ #[lM ⟨#[]⟩,lC none 0 0] 192)).setRow wr.heap.size [Z0 n,.slice UA hs.length uc].toArray=W1 from hW1.out.symm];go_frame))
    refine hws.out.mono ?_;rintro e W2 ⟨rfl,hB2,hb2,hk2⟩;have hX2:=hk2.blk _ _ _ hX1.out (by decide) (by decide);have hU2:=iD (hU1.out.low hb2);have hbW2:=iD (hbW.out.trans hb2);have d1:W2.cell? ⟨wr.heap.size,1,none⟩=some (.slice UA hs.length uc):=by rw[hX2.cell];rfl
    clear hX2 hb2 hk2 hX1 hU1 hbW hws hcells hone hW1 d0 hgl;generalize wr.heap.size=g0 at d1 ⊢;have hz:=(zero_of_info Z4k).1;have hrest:hs.length*65+n.length<=545:=by rw[Z1b hho.out] at hline;omega
    go_wp2_with fail;go_loopw [27] (fun i wr=>∃ j:Nat,j<=hs.length/\i=.int .i64 j/\BIs w1.heap.size w1.heap.size (pre++n++K8 (hs.take j)) wr/\Below w1.heap.size w1 wr/\Below w1.heap.size W2 wr) (fun i _=>hs.length - (intOf i).toNat)
    case atStart=>exact⟨0,lI _,rfl,by simpa[K8] using hB2,hbW2.out,lG _ _⟩
    case round =>
     clear hB2 hbW2 d1;obtain⟨j,hj,rfl,hB3,hb3,hb3'⟩:=hrel;by_cases hjl:j<hs.length
     ·obtain⟨gd,od,rfl,hgdl,_,hcd⟩:=Z7.dig hU2.out hho.out j hjl;have hcd3:Hid (∀ i v,(hs[j].map B)[i]?=some v->wr.cell? ⟨gd,od+j*32+i,none⟩=some v):=iD (fun i v hv=>by
       rw[hb3'.cell (p:=⟨gd,_,none⟩) hgdl];exact hcd i v hv)
      have hdl:=hho.out hs[j] (lL hjl);have hsucc2:Hid (pre++n++K8 (hs.take (j+1))=pre++n++K8 (hs.take j)++(32 :: Xy hs[j])):=iD (by rw[Oe hjl,Zgf,lO,lO,lO]);have hll:(pre++n++K8 (hs.take j)).length<=20000:=by
       rw[lB,lB,Z1b (fun x hx=>hho.out x (nK hx)),lD];omega
      obtain⟨q,hq⟩:∃ q,q=pre++n++K8 (hs.take j):=⟨_,rfl⟩;rw[<-hq] at hll hsucc2 hB3;obtain⟨d,hd⟩:∃ d,d=hs[j]:=⟨_,rfl⟩;rw[<-hd] at hcd3 hdl hsucc2;clear hd hq hcd;have hsd:=iD (Za hdl);have hzl:Hid (Z3.length=(d.map B).length):=iD (by rw[List.length_map,hdl];rfl);obtain⟨hX4,hbx4⟩:=Z2v wr 47 Z3 (d.map B);obtain⟨W4,hW4⟩:∃ W4,W4=(wr.alloc (.cells Z3.toArray 47)).setRow wr.heap.size (d.map B).toArray:=⟨_,rfl⟩;rw[<-hW4] at hX4 hbx4;replace hW4:=iD hW4;have hB4:=iD (Z55 hB3 hbx4);have hb4:=hb3.trans (hbx4.mono hb3.size);have hb4':=hb3'.trans (hbx4.mono hb3.size);have hhx:=iD (Z8c d hdl W4);have hhl:(32 :: Xy d).length=65:=by rw[lF,Z0u,hdl]
      have hadd:=Zgh [32] (Xy d);simp only[kJ,kK] at hadd;replace hX4:=iD hX4;have i3:(0:Int)<=(j:Int):=by omega
      have i4:(j:Int)<(hs.length:Int):=by omega
      clear hB3 hb3 hb3' hbx4;obtain⟨hx,hhx2⟩:∃ hx,hx=Xy d:=⟨_,rfl⟩;rw[<-hhx2] at hhx hhl hadd hsucc2;clear hhx2;have hsz:(⟨hx.toArray⟩:ByteArray).size=64:=by rw[Z53];simpa using hhl
      go_wp2_with (first
       | (refine Vv 47 (.tmp 29) rfl rfl gd (od+j*32) rfl (d.map B) hcd3.out _ underlying47 rfl hsd.out ?_;go_frame)
       | (refine Zo rfl 47 (.tmp 9) (.tmp 30) rfl wr.heap.size (d.map B) rfl rfl 47 Z3 (Blk.new_at rfl) hzl.out hsd.out (Yk _) ?_;rw[show (wr.alloc (lJ Z3.toArray 47)).setRow wr.heap.size (d.map B).toArray=W4 from hW4.out.symm];go_frame)
       | (refine Y0 rfl 47 (.tmp 9) rfl wr.heap.size rfl 47 (d.map B) hX4.out _ underlying47 rfl hsd.out ?_;go_frame)
       | (go_at_call 111;refine hhx.out.mono ?_;rintro e W5 ⟨rfl,hb5⟩;replace hb5:=iD hb5))
      have hb5':=hb4.trans (hb5.out.mono hb4.size);have hB5:=Z55 hB4.out hb5.out;refine (Z54 w1.heap.size w1.heap.size q (32 :: hx) W5 hB5 (by omega) hb5'.size).mono ?_;rintro e W6 ⟨rfl,hB6,hb6,_⟩;rw[<-hsucc2.out] at hB6;replace hB6:=iD hB6;have hb7:=hb5'.trans hb6;have hb8:=(hb4'.trans (hb5.out.mono hb4.size)).trans hb6;clear hB4 hB5 hb6 hb5' hb5 hhx hb4 hb4' hX4 hW4;go_wp2;go_roundw
      case rel=>exact⟨j+1,by omega,by go_num,hB6.out,hb7,hb8⟩
      case measure=>simp[intOf];omega
     ·obtain rfl:j=hs.length:=by omega
      rw[lU] at hB3;have hlast:Hid (pre++n++K8 hs++[10]=Jh (T.take (k+1))):=iD (by rw[hsucc.out];simp);have hll:(pre++n++K8 hs).length<=20000:=by
       rw[lB,lB,Z1b hho.out];omega
      obtain⟨q,hq⟩:∃ q,q=pre++n++K8 hs:=⟨_,rfl⟩;rw[<-hq] at hll hlast hB3;clear hq;have hws:=iD (Z54 w1.heap.size w1.heap.size q [10] wr hB3 (by simp;omega) hb3.size);replace hb3:=iD hb3;clear hB3 hb3';go_wp2_with fail;refine hws.out.mono ?_;rintro e W6 ⟨rfl,hB6,hb6,_⟩;rw[hlast.out] at hB6;replace hB6:=iD hB6;have hb7:=hb3.out.trans hb6;clear hb6 hws;go_wp2;go_roundw
      case rel=>exact⟨k+1,by omega,by go_num,hB6.out,hb7⟩
      case measure=>simp[intOf];omega
   ·obtain rfl:k=T.length:=by omega
    rw[lU] at hB;have hstr:=iD (Tryz.Builder_String_any w1.heap.size w1.heap.size (Jh T) wr hB hb.size);replace hb:=iD hb;go_wp2_with fail;refine hstr.out.mono ?_;rintro e w2 ⟨rfl,hb2⟩;go_wp2;go_ret2;exact⟨Z12 (by rw[hpt.out];rfl) rfl,(hb1.out.trans ((hb.out.trans hb2).mono hb1.out.size))⟩
 ·have hpt:Hid (Xk T=[]):=iD (by unfold Xk;rw[if_neg hm]);obtain⟨x,hx⟩:∃ x,x=Yu T:=⟨_,rfl⟩;rw[<-hx] at hmay hm ⊢;clear hx h hf;have g1:(x != 0)=true:=by simpa using hm
  go_enter func184,ntmps184;go_wp2_with fail;refine hmay.out.mono ?_;rintro e w1 ⟨rfl,hb1⟩;replace hb1:=iD hb1;go_wp2;go_ret2;exact⟨Z12 (by rw[hpt.out];rfl) rfl,hb1.out⟩
end Go.Proofs.YtfdimggmljkkbaaGreatDoor
end
end
section
namespace Go.Proofs.YtfdimggmljkkbaaGreatDoor
open Go.RowKit
theorem Zgj(x y:List Str)(v u:Value)(ok ok':Nat->Prop)(w:World)(h:Z7 w ok v x)(h':Z7 w ok' u y)(hx:HFit x)(hy:HFit y) :
    Calls lA 70 #[v,u] w fun e w'=>e=.returned (.bool (decide (x=y)))/\Below w.heap.size w w':=by
  obtain⟨A,c,rfl,hc,hr⟩:=h;obtain⟨A',c',rfl,hc',hr'⟩:=h';have hX:Hid (Z7 w ok (.slice A x.length c) x):=iD ⟨A,c,rfl,hc,hr⟩;have hY:Hid (Z7 w ok' (.slice A' y.length c') y):=iD ⟨A',c',rfl,hc',hr'⟩;have hlx:x.length<=4398046511104:=hx.len;have hly:y.length<=4398046511104:=hy.len;have hox:=iD hx.ok;have hoy:=iD hy.ok;clear hr hr' hc hc' hx hy;by_cases hl:x.length=y.length
  · have g0:((x.length:Int) != (y.length:Int))=false:=by simp[hl]
    replace hl:=iD hl;go_enter func70,ntmps70;go_wp2;go_loopw [13] (fun i wr=>∃ k:Nat,k<=x.length/\i=.int .i64 k/\Hid (x.take k=y.take k)/\Below w.heap.size w wr) (fun i _=>x.length - (intOf i).toNat)
    case atStart=>exact⟨0,lI _,rfl,iD rfl,lG _ _⟩
    case round =>
      obtain⟨k,hk,rfl,ht,hb⟩:=hrel;by_cases hlt:k<x.length
      · have hlt':k<y.length:=by rw[<-hl.out];exact hlt
        obtain⟨b1,o1,rfl,_,hb1,hc1⟩:=hX.out.dig hox.out k hlt;obtain⟨b2,o2,rfl,_,hb2,hc2⟩:=hY.out.dig hoy.out k hlt';have hxl:=hox.out x[k] (lL hlt);have hyl:=hoy.out y[k] (lL hlt');have hc1':Hid (∀ n:Nat,∀ j v,(x[k].map B)[j]?=some v->(wr.drewN n).cell? ⟨b1,o1+k*32+j,none⟩=some v):=iD (fun n j v hv=>by
          show wr.cell? _=_;rw[hb.cell (p:=⟨b1,_,none⟩) hb1];exact hc1 j v hv)
        have hc2':Hid (∀ n:Nat,∀ j v,(y[k].map B)[j]?=some v->(wr.drewN n).cell? ⟨b2,o2+k*32+j,none⟩=some v):=iD (fun n j v hv=>by
          show wr.cell? _=_;rw[hb.cell (p:=⟨b2,_,none⟩) hb2];exact hc2 j v hv)
        have hyes:Hid (x[k]=y[k]->x.take (k+1)=y.take (k+1)):=iD (fun e=>by rw[Oe hlt,Oe hlt',ht.out,e]);have hno:Hid (x[k] ≠ y[k]->x ≠ y):=iD (fun hne e=>hne (by subst e;rfl));obtain⟨p,hp⟩:∃ p,p=x[k]:=⟨_,rfl⟩;obtain⟨q,hq⟩:∃ q,q=y[k]:=⟨_,rfl⟩;rw[<-hp] at hxl hc1' hyes hno;rw[<-hq] at hyl hc2' hyes hno;clear hp hq hc1 hc2;have hs1:=iD (Za hxl);have hs2:=iD (Za hyl);replace hxl:=iD hxl;replace hyl:=iD hyl;have i1:(0:Int)<=(k:Int):=by omega
        have i2:(k:Int)<(x.length:Int):=by omega
        have i3:(k:Int)<(y.length:Int):=by omega
        obtain⟨t,htt⟩:∃ t,t=(!(p == q)):=⟨_,rfl⟩;replace htt:=iD htt;go_wp2;refine wp_region_quiet_lit (by kernel_rfl) (by kernel_rfl) ?_;repeat (first
          | (refine Vw 47 (.tmp 18) rfl rfl b1 (o1+k*32) rfl (p.map B) (fun w hw=>?_) _ underlying47 rfl hs1.out ?_
             · obtain⟨n,rfl⟩:=hw
               exact hc1'.out n
             go_frame)
          | (refine Vw 47 (.tmp 22) rfl rfl b2 (o2+k*32) rfl (q.map B) (fun w hw=>?_) _ underlying47 rfl hs2.out ?_
             · obtain⟨n,rfl⟩:=hw
               exact hc2'.out n
             go_frame)
          | (refine Zff (.tmp 19) (.tmp 23) _ rfl rfl p q rfl rfl hxl.out hyl.out t htt.out.symm ?_;go_frame)
          | go_big_quiet_step (fail))
        refine lY ?_;rintro _ ⟨nq,rfl⟩;cases t with
        | true =>
          have hne:Hid (x ≠ y):=iD (hno.out (fun e=>by have:=htt.out;rw[e] at this;simp at this));go_wp2;go_ret;exact⟨by rw[decide_eq_false hne.out];rfl,below_drewN hb nq⟩
        | false =>
          have hnx:Hid (x.take (k+1)=y.take (k+1)):=iD (hyes.out (by simpa using htt.out));go_wp2;go_roundw
          case rel=>exact⟨k+1,by omega,by go_num,hnx,below_drewN hb nq⟩
          case measure=>simp[intOf];omega
      · obtain rfl:k=x.length:=by omega
        have he:Hid (x=y):=iD (by
          have:=ht.out
          rwa [lU,kL (by rw[hl.out];exact lH _)] at this)
        go_wp2;go_ret;exact⟨by rw[decide_eq_true he.out];rfl,hb⟩
  · have g0:((x.length:Int) != (y.length:Int))=true:=by simp;omega
    have hne:Hid (x ≠ y):=iD (fun e=>hl (by rw[e]));clear hl;go_enter func70,ntmps70;go_wp2;go_ret;exact⟨by rw[decide_eq_false hne.out];rfl,lG _ _⟩
end Go.Proofs.YtfdimggmljkkbaaGreatDoor
end
section
namespace Go.Proofs.YtfdimggmljkkbaaGreatDoor
open Go.RowKit
attribute [local go_sem] toL
end Go.Proofs.YtfdimggmljkkbaaGreatDoor
end
section
namespace Go.Proofs.YtfdimggmljkkbaaGreatDoor
open Go.RowKit
end Go.Proofs.YtfdimggmljkkbaaGreatDoor
end
end
section
set_option maxRecDepth 100000
set_option maxHeartbeats 8000000
open Go.Lib renaming hid → iD
open Go.Proofs.Tryz
section
section
namespace Go.Proofs.YtfdimggmljkkbaaGreatDoor
open Go.RowKit
def U1(a b:Str):Int:=if Ze a b then -1 else if a=b then 0 else 1
theorem Z9i:∀ (a b:Str),nR a b=U1 a b
 | [],[]=>rfl
 | [],_ :: _=>rfl
 | _ :: _,[]=>rfl
 | x :: a,y :: b=>by
  have ih:=Z9i a b;unfold U1 at ih ⊢;rw[Z4r];unfold nR;by_cases h1:x<y
  ·simp[h1]
  ·by_cases h2:y<x
   ·have : x ≠ y:=fun e=>by subst e;exact h1 h2
    simp[h1,h2,this]
   ·have : x=y:=by
     rw[UInt8.lt_iff_toNat_lt] at h1 h2;exact UInt8.toNat_inj.1 (by omega)
    subst this;simp[h1,ih]
theorem Zgk(a b:Str)(w:World):Calls lA 147 #[.string ⟨a.toArray⟩,.string ⟨b.toArray⟩] w fun e w'=>e=.returned (.int .i64 (U1 a b))/\w=w':=by
 have h:=Tryz.strings_Compare ⟨a.toArray⟩ ⟨b.toArray⟩ w;exact h.mono fun e w' ⟨h1,h2⟩=>⟨by rw[h1,<-Z9i],h2.symm⟩
theorem Zgl(n s:Str)(u:Value)(w:World) :
  Calls lA 216 #[.agg #[Z0 n,u],Z0 s] w fun e w'=>e=.returned (.int .i64 (U1 n s))/\Below w.heap.size w w':=by
 have hc:=iD (Zgk n s);have hB:Blk (w.alloc (.cells #[Z0 n,u] 192)) w.heap.size 192 [Z0 n,u]:=Blk.new_at (cs:=[Z0 n,u]) rfl;have c0:(w.alloc (.cells #[Z0 n,u] 192)).cell? ⟨w.heap.size,0,none⟩=some (.string ⟨n.toArray⟩):=by rw[hB.cell];rfl
 have hb:Below w.heap.size w (w.alloc (.cells #[Z0 n,u] 192)):=bL;clear hB;unfold Z0 at c0 hb ⊢;replace hb:=iD hb;go_enter func216,ntmps216;go_wp2_with ((go_at_call 147;refine (hc.out _).mono ?_;rintro e w' ⟨rfl,rfl⟩));go_ret;exact⟨rfl,hb.out⟩
theorem Z2x{T:Tab}(h:sorted T){i j:Nat}(hij:i<j)(hj:j<T.length):Ze (T[i]'(by omega)).name T[j].name=true:=by
 exact (List.pairwise_iff_getElem.1 h) i j (by omega) hj hij
theorem Z2y(T:Tab)(n:Str):Zm T n<=T.length:=by
 unfold Zm;induction T with
 | nil=>simp
 | cons b r ih =>
  rw[lS];split
  ·simp only[lF];omega
  ·simp
theorem Z9j:∀ {T:Tab} {n:Str} {p:Nat},p<=T.length->(∀ x (h:x<T.length),x<p->Ze T[x].name n=true)->(∀ h:p<T.length,Ze T[p].name n=false)->Zm T n=p
 | [],_,p,hp,_,_=>by simp at hp;subst hp;rfl
 | b :: r,n,0,_,_,h2=>by
  have:=h2 (by simp);simp only[Zm,lS];have e:Ze b.name n=false:=by simpa using this
  rw[e];rfl
 | b :: r,n,p+1,hp,h1,h2=>by
  have e:Ze b.name n=true:=by have:=h1 0 (by simp) (by omega);simpa using this
  have ih:Zm r n=p:=Z9j (by simpa using hp) (fun x hx hxp=>by have:=h1 (x+1) (by simpa using hx) (by omega);simpa using this) (fun h=>by have:=h2 (by simpa using h);simpa using this);unfold Zm at ih ⊢;rw[lS,if_pos e,lF,ih]
def X8(T:Tab)(n:Str):Bool:=match T[Zm T n]? with | some b=>decide (b.name=n) | none=>false
theorem Zgm{a b n:Str}(h:Ze a b=true)(hn:Ze a n=false):Ze b n=false:=by
 cases hb:Ze b n with
 | false=>rfl
 | true=>rw[Qv _ _ _ h hb] at hn;cases hn
theorem Zgn(a b:Str):decide (U1 a b<0)=Ze a b:=by
 unfold U1;cases Ze a b
 ·simp only[kM,if_false];split <;> rfl
 ·rfl
theorem Zgo(a b:Str):(U1 a b == 0)=decide (a=b):=by
 unfold U1;cases h:Ze a b with
 | true =>
  have:=Z0z h;simp[this]
 | false =>
  simp only[kM,if_false];split
  ·rename_i e;simp[e]
  ·rename_i e;simp[e]
theorem Zgp(T:Tab)(v:Value)(s:Str)(ok:Nat->Prop)(w:World)(h:TabIs w ok v T)(hf:T.length<=3518437208832)(hs:sorted T) :
  Calls lA 215 #[v,Z0 s,.func (.func 216) #[] #[]] w fun e w'=>e=.returned (.tuple #[.int .i64 (Zm T s),.bool (X8 T s)])/\Below w.heap.size w w':=by
 obtain⟨A,c,rfl,hc⟩:=h.form;have hT:=iD h.ltB;replace hs:=iD hs;have hcall:=iD (fun n u W=>Zgl n s u W);clear h hc;unfold Z0;unfold Z0 at hcall;go_enter func215,ntmps215;go_wp2;go_loopw [9,10] (fun i j wr=>∃ a b:Nat,a<=b/\b<=T.length/\i=.int .i64 a/\j=.int .i64 b/\Hid ((∀ x (h:x<T.length),x<a->Ze T[x].name s=true)/\(∀ x (h:x<T.length),b<=x->Ze T[x].name s=false))/\Below w.heap.size w wr) (fun i j _=>(intOf j).toNat - (intOf i).toNat)
 case atStart=>exact⟨0,T.length,lI _,lH _,rfl,rfl,iD ⟨fun x _ hx=>by omega,fun x hx hx2=>by omega⟩,lG _ _⟩
 case round =>
  obtain⟨a,b,hab,hbl,rfl,rfl,hrng,hb⟩:=hrel;by_cases hlt:a<b
  ·obtain⟨m,hm⟩:∃ m,m=(a+b) / 2:=⟨_,rfl⟩;have hm1:a<=m:=by omega
   have hm2:m<b:=by omega
   have hml:m<T.length:=by omega
   obtain⟨g,o,u,rfl,hgl,_,_,c0,c1⟩:=(hT.out.low hb).br m hml;have hcells:=iD (Z11 c0 c1);have hcmp:=Zgn T[m].name s;have hlo:Hid (Ze T[m].name s=true->∀ x (h:x<T.length),x<m+1->Ze T[x].name s=true):=iD (fun e x hx hxm=>by
    by_cases he:x=m
    ·subst he;exact e
    ·exact Qv _ _ _ (Z2x hs.out (show x<m by omega) hml) e)
   have hhi:Hid (Ze T[m].name s=false->∀ x (h:x<T.length),m<=x->Ze T[x].name s=false):=iD (fun e x hx hxm=>by
    by_cases he:x=m
    ·subst he;exact e
    ·exact Zgm (Z2x hs.out (show m<x by omega) hx) e)
   have hca:=iD (hcall.out T[m].name u);obtain⟨n,hn⟩:∃ n,n=T[m].name:=⟨_,rfl⟩;rw[<-hn] at hcells hcmp hlo hhi hca;clear hn c0 c1;obtain⟨z,hz⟩:∃ z,z=U1 n s:=⟨_,rfl⟩;obtain⟨t,ht⟩:∃ t,t=Ze n s:=⟨_,rfl⟩;rw[<-hz] at hcmp hca;rw[<-ht] at hcmp hlo hhi;clear hz ht;have e1:IntKind.i64.wrap ((a:Int)+(b:Int))=(a:Int)+(b:Int):=kI _ (by omega);have e2:((a:Int)+(b:Int)) / 2=(m:Int):=by omega
   have i1:(0:Int)<=(m:Int):=by omega
   have i2:(m:Int)<(T.length:Int):=by omega
   replace hm:=iD hm;go_wp2_with (first
    | (refine Vv 192 (.tmp 27) rfl rfl g (o+m*2) rfl [.string ⟨n.toArray⟩,u] hcells.out _ underlying192 rfl X7 ?_;go_frame))
   refine (hca.out _).mono ?_;rintro e w2 ⟨rfl,hb2⟩;have hb3:=hb.trans (hb2.mono hb.size);clear hb2;cases t with
   | true =>
    go_wp2;go_roundw
    case rel=>exact⟨m+1,b,by omega,hbl,by go_num,rfl,iD ⟨hlo.out (by simp),hrng.out.2⟩,hb3⟩
    case measure=>simp[intOf];omega
   | false =>
    go_wp2;go_roundw
    case rel=>exact⟨a,m,hm1,by omega,rfl,rfl,iD ⟨hrng.out.1,hhi.out (by simp)⟩,hb3⟩
    case measure=>simp[intOf];omega
  ·obtain rfl:a=b:=by omega
   have hp:Hid (Zm T s=a):=iD (Z9j hbl hrng.out.1 (fun h=>hrng.out.2 a h (lH _)));clear hab;by_cases hin:a<T.length
   ·obtain⟨g,o,u,rfl,hgl,_,_,c0,c1⟩:=(hT.out.low hb).br a hin;have hcells:=iD (Z11 c0 c1);have hcmp:=Zgo T[a].name s;have hhit:Hid (X8 T s=decide (T[a].name=s)):=iD (by unfold X8;rw[hp.out,lZ hin]);have hca:=iD (hcall.out T[a].name u);obtain⟨n,hn⟩:∃ n,n=T[a].name:=⟨_,rfl⟩;rw[<-hn] at hcells hcmp hca hhit;clear hn c0 c1;obtain⟨z,hz⟩:∃ z,z=U1 n s:=⟨_,rfl⟩;obtain⟨t,ht⟩:∃ t,t=decide (n=s):=⟨_,rfl⟩;rw[<-hz] at hcmp hca;rw[<-ht] at hcmp hhit;clear hz ht;have i1:(0:Int)<=(a:Int):=by omega
    have i2:(a:Int)<(T.length:Int):=by omega
    have d1:decide ((a:Int)<(T.length:Int))=true:=by simpa using hin
    go_wp2_with (first
     | (refine Vv 192 (.tmp 43) rfl rfl g (o+a*2) rfl [.string ⟨n.toArray⟩,u] hcells.out _ underlying192 rfl X7 ?_;go_frame))
    refine (hca.out _).mono ?_;rintro e w2 ⟨rfl,hb2⟩;have hb3:=hb.trans (hb2.mono hb.size);clear hb2;go_wp2;go_ret2;exact⟨Z12 (by rw[hp.out];rfl) (by rw[hhit.out];rfl),hb3⟩
   ·have hhit:Hid (X8 T s=false):=iD (by unfold X8;rw[hp.out,nY (by omega)]);have d1:decide ((a:Int)<(T.length:Int))=false:=decide_eq_false (by omega);go_wp2;go_ret2;exact⟨Z12 (by rw[hp.out];rfl) (by rw[hhit.out];rfl),hb⟩
end Go.Proofs.YtfdimggmljkkbaaGreatDoor
end
section
namespace Go.Proofs.YtfdimggmljkkbaaGreatDoor
open Go.RowKit
theorem Z9k{T:Tab}{n:Str}:∀ x (h:x<T.length),x<Zm T n->Ze T[x].name n=true:=by
 intro x h hx;unfold Zm at hx;induction T generalizing x with
 | nil=>simp at h
 | cons b r ih =>
  rw[lS] at hx;split at hx
  ·rename_i hb;cases x with
   | zero=>exact hb
   | succ x=>exact ih x (by simpa using h) (by simpa using hx)
  ·simp at hx
theorem Z56{T:Tab}{n:Str}(h:Zm T n<T.length):Ze T[Zm T n].name n=false:=by
 induction T with
 | nil=>simp at h
 | cons b r ih =>
  by_cases hb:Ze b.name n=true
  ·have e:Zm (b :: r) n=Zm r n+1:=by unfold Zm;rw[lS,if_pos hb,lF]
   have h':Zm r n<r.length:=by rw[e] at h;simpa using h
   have:=ih h';simpa[e] using this
  ·have e:Zm (b :: r) n=0:=by unfold Zm;rw[lS,if_neg hb];rfl
   have : Ze b.name n=false:=by simpa using hb
   simpa[e] using this
theorem Zgq{T:Tab}(hs:sorted T)(n:Str):Z4 T n=match T[Zm T n]? with | some b=>if b.name=n then b.heads else [] | none=>[]:=by
 have hle:=Z2y T n;have hlt:=@Z9k T n;have hno:∀ x (h:x<T.length),x ≠ Zm T n->T[x].name ≠ n:=by
  intro x h hx e;rcases nV x (Zm T n) with h1 | h1
  ·have:=hlt x h h1;rw[e,Z2m] at this;cases this
  ·have hp:Zm T n<T.length:=by omega
   have g1:=Z56 hp;have g2:=Z2x hs (show Zm T n<x by omega) h;rw[e] at g2;rw[g1] at g2;cases g2
 unfold Z4;cases hf:T.find? (fun b=>b.name == n) with
 | none =>
  rw[List.find?_eq_none] at hf;cases hp:T[Zm T n]? with
  | none=>rfl
  | some b =>
   have hm:=List.mem_of_getElem? hp;have:=hf b hm;simp only[beq_iff_eq] at this;simp[this]
 | some b =>
  have hm:=kN hf;have he:b.name=n:=by have:=List.find?_some hf;simpa using this
  obtain⟨x,hx,rfl⟩:=lN.1 hm;have hxp:x=Zm T n:=by
   rcases Nat.decEq x (Zm T n) with h1 | h1
   ·exact absurd he (hno x hx h1)
   ·exact h1
  subst hxp;simp[hx,he]
theorem Z9l(T:Tab)(v:Value)(s:Str)(ok:Nat->Prop)(w:World)(h:TabIs w ok v T)(hf:T.length<=3518437208832)(hs:sorted T) :
  Calls lA 163 #[v,Z0 s] w fun e w'=>e=.returned (.tuple #[.int .i64 (Zm T s),.bool (X8 T s)])/\Below w.heap.size w w':=by
 have hb:=iD (Zgp T v s ok w h hf hs);obtain⟨A,c,rfl,hc⟩:=h.form;clear h hs hc;unfold Z0 at hb ⊢;go_enter func163,ntmps163;go_wp2_with fail;refine hb.out.mono ?_;rintro e w' ⟨rfl,hb2⟩;go_wp2;go_ret2;exact⟨rfl,hb2⟩
theorem Z57(T:Tab)(v:Value)(s:Str)(ok:Nat->Prop)(w:World)(h:TabIs w ok v T)(hf:T.length<=3518437208832)(hs:sorted T) :
  ∃ u,Z7 w ok u (Z4 T s)/\∀ W,Below w.heap.size w W->Calls lA 89 #[v,Z0 s] W fun e w'=>e=.returned u/\Below W.heap.size W w':=by
 have hb:=fun W (hW:Below w.heap.size w W)=>Z9l T v s ok W (h.stayB hW) hf hs;have hg:=Zgq hs s;have hle:=Z2y T s;obtain⟨A,c,rfl,hc⟩:=h.form;clear hs hc;by_cases hp:Zm T s<T.length
 ·obtain⟨b,o,u,rfl,_,hbl,hU,c0,c1⟩:=h.br (Zm T s) hp;rw[lZ hp] at hg;have hh:X8 T s=decide (T[Zm T s].name=s):=by unfold X8;rw[lZ hp]
  by_cases he:T[Zm T s].name=s
  ·rw[decide_eq_true he] at hh;have hg':Hid (Z4 T s=T[Zm T s].heads):=iD (by rw[hg];simp[he]);rw[<-hg'.out] at hU;rw[hh] at hb;obtain⟨p,hpp⟩:∃ p,p=Zm T s:=⟨_,rfl⟩;rw[<-hpp] at hb hp c1;obtain⟨UA,uc,rfl,huc,_⟩:=id hU;refine⟨_,hU,fun W hW=>?_⟩;replace hU:=iD hU;replace hb:=iD (hb W hW);have c3:W.cell? ⟨b,o+p*2+1,none⟩=some (.slice UA (Z4 T s).length uc):=by rw[hW.cell (p:=⟨b,_,none⟩) hbl];exact c1
   have hbW:b<W.heap.size:=nL hbl hW.size;have i1:(0:Int)<=(p:Int):=by omega
   have i2:(p:Int)<(T.length:Int):=by omega
   clear hg hh he c0 h hle hpp hg' c1 hW;unfold Z0 at hb ⊢;go_enter func89,ntmps89;go_wp2_with fail;refine hb.out.mono ?_;rintro e w' ⟨rfl,hb2⟩;have c2:w'.cell? ⟨b,o+p*2+1,none⟩=some (.slice UA (Z4 T s).length uc):=by rw[hb2.cell (p:=⟨b,_,none⟩) hbW];exact c3
   replace hb2:=iD hb2;clear c3;go_wp2;go_ret;exact⟨rfl,hb2.out⟩
  ·rw[decide_eq_false he] at hh;have hg':Z4 T s=[]:=by rw[hg];simp[he]
   rw[hh] at hb;refine⟨.slice none 0 0,by rw[hg'];exact Z7.nil,fun W hW=>?_⟩;replace hb:=iD (hb W hW);clear hg hh he c0 c1 h hle hU hg' hW;unfold Z0 at hb ⊢;go_enter func89,ntmps89;go_wp2_with fail;refine hb.out.mono ?_;rintro e w' ⟨rfl,hb2⟩;replace hb2:=iD hb2;go_wp2;go_ret;exact⟨rfl,hb2.out⟩
 ·have hn:T[Zm T s]?=none:=nY (by omega);have hh:X8 T s=false:=by unfold X8;rw[hn]
  rw[hn] at hg;rw[hh] at hb;refine⟨.slice none 0 0,by rw[hg];exact Z7.nil,fun W hW=>?_⟩;replace hb:=iD (hb W hW);clear hh h hle hn hg hW;unfold Z0 at hb ⊢;go_enter func89,ntmps89;go_wp2_with fail;refine hb.out.mono ?_;rintro e w' ⟨rfl,hb2⟩;replace hb2:=iD hb2;go_wp2;go_ret;exact⟨rfl,hb2.out⟩
end Go.Proofs.YtfdimggmljkkbaaGreatDoor
end
end
section
section
namespace Go.Proofs.YtfdimggmljkkbaaGreatDoor
open Go.RowKit
section
variable {P:Program}
theorem Zgr(w:World)(ty:TypeId)(g o:Nat)(v:Value)(hagg:(isAgg ty).run P w=.ok false w)(hc:w.cell? ⟨g,o,none⟩=some v):(loadVar ty ⟨g,o,none⟩).run P w=.ok v w:=by
 simp[loadVar,hagg,load,Sem.run,hc]
theorem Z9m{ops:Array Oper}{rest:List Oper}{op:Oper}{a:Act}{C:World->Prop}{Q:Act->Prop}(ty:TypeId)(x:Operand)(ho:op.op=.load ty x)(hw:nM op (yielded ops a.tmps)=true)
  (g o:Nat) (hx:a.eval x=.pointer (some ⟨g,o,none⟩)) (v:Value) (hc:∀ w,C w->w.cell? ⟨g,o,none⟩=some v) (hagg:∀ w,(isAgg ty).run P w=.ok false w)
  (h:wpQuiet P ops C Q rest (a.put op.dst v)):wpQuiet P ops C Q (op :: rest) a:=by
 refine Z2n _ ho hw _ (fun w hw=>?_) h;unfold execOp;simp only[ho,hx,Instr.loadAt,Instr.sureAddr,kO,kP,kQ,Zgr w ty g o v (hagg w) (hc w hw)]
end
theorem Zgs(w:World):(isAgg 9).run lA w=.ok false w:=by kernel_rfl
theorem aggHd(w:World):(isAgg 37).run lA w=.ok false w:=by kernel_rfl
end Go.Proofs.YtfdimggmljkkbaaGreatDoor
end
section
namespace Go.Proofs.YtfdimggmljkkbaaGreatDoor
open Go.RowKit
theorem Zgt(a b:Str):(a == b)=decide (a=b):=by
 rw[Bool.eq_iff_iff,beq_iff_eq,decide_eq_true_iff]
attribute [local go_sem] toL
theorem Zgu(n m:Str)(x y:Value)(g:Nat)(w:World)(hc:w.cell? ⟨g,0,none⟩=some (Z0 m)) :
  Calls lA 227 #[.agg #[Z0 n,x,y],.pointer (some ⟨g,0,none⟩)] w fun e w'=>e=.returned (.bool (decide (n=m)))/\Below w.heap.size w w':=by
 have hlt:g<w.heap.size:=kR _ _ hc;have hb:Below w.heap.size w (w.alloc (.cells #[Z0 n,x,y] 107)):=bL;have hB:Blk (w.alloc (.cells #[Z0 n,x,y] 107)) w.heap.size 107 [Z0 n,x,y]:=Blk.new_at (cs:=[Z0 n,x,y]) rfl;have c0:(w.alloc (.cells #[Z0 n,x,y] 107)).cell? ⟨w.heap.size,0,none⟩=some (.string ⟨n.toArray⟩):=by rw[hB.cell];rfl
 have c1:(w.alloc (.cells #[Z0 n,x,y] 107)).cell? ⟨g,0,none⟩=some (.string ⟨m.toArray⟩):=by rw[hb.cell (p:=⟨g,0,none⟩) hlt];exact hc
 clear hB hc;unfold Z0 at c0 c1 hb ⊢;replace hb:=iD hb;go_enter func227,ntmps227;go_wp2;go_ret;exact⟨Z1a (Zgt n m),hb.out⟩
def IxTo(w:World)(C:List Chg)(m:Str)(e:Ending)(w':World):Prop:=∃ z:Int,e=.returned (.int .i64 z)/\decide (0<=z)=C.any (fun x=>x.name == m)/\Below w.heap.size w w'
theorem Zgv(C:List Chg)(v:Value)(m:Str)(g:Nat)(ok:Nat->Prop)(w:World)(h:Yz w ok v C)(hl:C.length<=2199023255552)(hc:w.cell? ⟨g,0,none⟩=some (Z0 m)) :
  Calls lA 260 #[v,.func (.func 227) #[] #[.pointer (some ⟨g,0,none⟩)]] w (IxTo w C m):=by
 obtain⟨A,c,rfl,hcc⟩:=h.form;have hC:=iD h.ltB;have hgl:g<w.heap.size:=kR _ _ hc;have hcall:=iD (fun n x y W=>Zgu n m x y g W);replace hc:=iD hc;clear h hcc;go_enter func260,ntmps260;go_wp2;go_loopw [8] (fun i wr=>∃ k:Nat,k<=C.length/\i=.int .i64 k/\Hid ((C.take k).any (fun x=>x.name == m)=false)/\Below w.heap.size w wr) (fun i _=>C.length - (intOf i).toNat)
 case atStart=>exact⟨0,lI _,rfl,iD rfl,lG _ _⟩
 case round =>
  obtain⟨k,hk,rfl,ha,hb⟩:=hrel;by_cases hlt:k<C.length
  ·obtain⟨b,o,x,y,rfl,hbl,_,_,_,hcells⟩:=(hC.out.low hb).ch k hlt;have hmc:wr.cell? ⟨g,0,none⟩=some (Z0 m):=by rw[hb.cell (p:=⟨g,0,none⟩) hgl];exact hc.out
   have hca:=iD (hcall.out C[k].name x y wr hmc);have hyes:Hid (C[k].name=m->C.any (fun x=>x.name == m)=true):=iD (fun e=>by
    rw[List.any_eq_true];exact⟨C[k],lL hlt,by simp[e]⟩)
   have hno:Hid (C[k].name ≠ m->(C.take (k+1)).any (fun x=>x.name == m)=false):=iD (fun e=>by
    rw[Oe hlt,List.any_append,ha.out];simp[e])
   obtain⟨n,hn⟩:∃ n,n=C[k].name:=⟨_,rfl⟩;rw[<-hn] at hcells hca hyes hno;replace hcells:=iD hcells;clear hn hmc;obtain⟨t,ht⟩:∃ t,t=decide (n=m):=⟨_,rfl⟩;rw[<-ht] at hca;replace ht:=iD ht;have i1:(0:Int)<=(k:Int):=by omega
   have i2:(k:Int)<(C.length:Int):=by omega
   go_wp2_with (first
    | (refine Vv 107 (.tmp 14) rfl rfl b (o+k*3) rfl [Z0 n,x,y] hcells.out _ underlying107 rfl G8 ?_;go_frame))
   refine hca.out.mono ?_;rintro e w2 ⟨rfl,hb2⟩;have hb3:=hb.trans (hb2.mono hb.size);clear hb2;cases t with
   | true =>
    have he:Hid (C.any (fun x=>x.name == m)=true):=iD (hyes.out (by simpa using ht.out.symm));go_wp2;go_ret;exact⟨k,rfl,by rw[he.out];simp,hb3⟩
   | false =>
    have he:Hid ((C.take (k+1)).any (fun x=>x.name == m)=false):=iD (hno.out (by simpa using ht.out.symm));go_wp2;go_roundw
    case rel=>exact⟨k+1,by omega,by go_num,he,hb3⟩
    case measure=>simp[intOf];omega
  ·obtain rfl:k=C.length:=by omega
   have he:Hid (C.any (fun x=>x.name == m)=false):=iD (by have:=ha.out;rwa [lU] at this);go_wp2;go_ret;exact⟨-1,rfl,by rw[he.out];rfl,hb⟩
theorem Zgw(C:List Chg)(v:Value)(m:Str)(g:Nat)(ok:Nat->Prop)(w:World)(h:Yz w ok v C)(hl:C.length<=2199023255552)(hc:w.cell? ⟨g,0,none⟩=some (Z0 m)) :
  Calls lA 226 #[v,.func (.func 227) #[] #[.pointer (some ⟨g,0,none⟩)]] w fun e w'=>e=.returned (.bool (C.any (fun x=>x.name == m)))/\Below w.heap.size w w':=by
 have hx:=iD (Zgv C v m g ok w h hl hc);obtain⟨A,c,rfl,hcc⟩:=h.form;clear h hc hcc;go_enter func226,ntmps226;go_wp2_with fail;refine hx.out.mono ?_;rintro e w2 ⟨z,rfl,hz,hb2⟩;replace hb2:=iD hb2;obtain⟨t,ht⟩:∃ t,t=C.any (fun x=>x.name == m):=⟨_,rfl⟩;rw[<-ht] at hz;replace ht:=iD ht;go_wp2;go_ret;exact⟨Z1a ht.out,hb2.out⟩
theorem Z2z{T:Tab}(hf:TFit T)(n:Str):HFit (Z4 T n):=by
 unfold Z4;split
 ·rename_i b hb;exact (hf.ok b (kN hb)).heads
 ·exact⟨lI _,fun d hd=>by simp at hd⟩
theorem Zgx(T:Tab)(C:List Chg)(c:Chg)(v u x y:Value)(ok ok' ok1:Nat->Prop)(w:World)(h:TabIs w ok v T)(hf:TFit T)(hs:sorted T)(h':Yz w ok' u C)(hl:C.length<=2199023255552)
    (hx:Z7 w ok1 x c.old) (hy:Z7 w ok1 y c.new) (hc:CFit1 c) :
    Calls lA 181 #[v,u,.agg #[Z0 c.name,x,y]] w fun e w'=>e=.returned (.int .i64 (Vt T C c))/\Below w.heap.size w w':=by
  obtain⟨A,tc,rfl,htc⟩:=h.form;obtain⟨A',cc,rfl,hcc⟩:=h'.form;obtain⟨XA,xc,rfl,hxc,_⟩:=id hx;obtain⟨YA,yc,rfl,hyc,_⟩:=id hy;have hnl:c.name.length<=140737488355328:=hc.name;have hol:c.old.length<=4398046511104:=hc.old.len;have hwl:c.new.length<=4398046511104:=hc.new.len;have hlT:=hf.len;have hB:Blk (w.alloc (.cells #[Z0 c.name,.slice XA c.old.length xc,.slice YA c.new.length yc] 107)) w.heap.size 107 [Z0 c.name,.slice XA c.old.length xc,.slice YA c.new.length yc]:=Blk.new_at (cs:=[Z0 c.name,.slice XA c.old.length xc,.slice YA c.new.length yc]) rfl;have hb1:Below w.heap.size w (w.alloc (.cells #[Z0 c.name,.slice XA c.old.length xc,.slice YA c.new.length yc] 107)):=bL;obtain⟨W1,hW1⟩:∃ W1,W1=w.alloc (.cells #[Z0 c.name,.slice XA c.old.length xc,.slice YA c.new.length yc] 107):=⟨_,rfl⟩;rw[<-hW1] at hB hb1;have hT1:=h.stayB hb1;have hC1:=h'.stayB hb1;have hX1:=hx.stayB hb1;have hY1:=hy.stayB hb1;have hnm:=iD (Od c.name W1 hnl);have hcf:=iD (Zgw C _ c.name w.heap.size ok' W1 hC1 hl (by rw[hB.cell];rfl));have c0:W1.cell? ⟨w.heap.size,0,none⟩=some (.string ⟨c.name.toArray⟩):=by rw[hB.cell];rfl
  have hWE:Vt T C c=if Yi c.name then (if C.any (fun x=>x.name == c.name) then 6 else if Ym c.new=0 then (if Z4 T c.name=c.old then 0 else 12) else Ym c.new) else 11:=rfl;obtain⟨n,hn⟩:∃ n,n=c.name:=⟨_,rfl⟩;obtain⟨a,ha⟩:∃ a,a=Yi c.name:=⟨_,rfl⟩;obtain⟨b,hb⟩:∃ b,b=C.any (fun x=>x.name == c.name):=⟨_,rfl⟩;rw[<-hb] at hcf hWE;rw[<-ha] at hnm hWE;have hor:=hc.old;have hnw:=hc.new;obtain⟨old,ho⟩:∃ old,old=c.old:=⟨_,rfl⟩;obtain⟨new,hn2⟩:∃ new,new=c.new:=⟨_,rfl⟩;obtain⟨res,hres⟩:∃ res,res=Vt T C c:=⟨_,rfl⟩;rw[<-hres] at hWE ⊢;rw[<-hn,<-ho,<-hn2] at hWE;rw[<-hn] at hnm c0 hnl;rw[<-ho] at hX1 hor hol;rw[<-hn2] at hY1 hnw hwl;rw[<-hn,<-ho,<-hn2] at hB hW1;rw[<-hn,<-ho,<-hn2];clear hres hb ha hn ho hn2 hc h h' hx hy htc hcc;replace hWE:=iD hWE;replace hW1:=iD hW1;have hf':=iD hf;replace hT1:=iD hT1;replace hX1:=iD hX1;replace hY1:=iD hY1;replace hB:=iD hB;replace hs:=iD hs;clear hC1;unfold Z0 at hW1 hnm ⊢;go_enter func181,ntmps181;go_wp2_with fail;rw[<-hW1.out];refine hnm.out.mono ?_;rintro e w2 ⟨rfl,rfl⟩;cases a with
  | false =>
    have hfin:Hid (res=11):=iD (by rw[hWE.out];rfl);go_wp2;go_ret;exact⟨O8 hfin.out.symm,hb1⟩
  | true =>
    replace hWE:Hid (res=if b then 6 else if Ym new=0 then (if Z4 T n=old then 0 else 12) else Ym new):=iD (by rw[hWE.out];rfl);go_wp2_with fail;refine hcf.out.mono ?_;rintro e w2 ⟨rfl,hb2⟩;have hbW2:=iD (hb1.trans (hb2.mono hb1.size));cases b with
    | true =>
      have hfin:Hid (res=6):=iD (by rw[hWE.out];rfl);clear hb2;go_wp2;go_ret;exact⟨O8 hfin.out.symm,hbW2.out⟩
    | false =>
      replace hWE:Hid (res=if Ym new=0 then (if Z4 T n=old then 0 else 12) else Ym new):=iD (by rw[hWE.out];rfl);have hB2:=hB.out.below hb2 hB.out.lt;have hT2:=iD (hT1.out.stayB hb2);have hX2:=iD (hX1.out.stayB hb2);have hY2:=iD (hY1.out.stayB hb2);have d2:w2.cell? ⟨w.heap.size,2,none⟩=some (.slice YA new.length yc):=by rw[hB2.cell];rfl
      replace hB2:=iD hB2;have hcall:=iD (Z8v new _ ok1 w2 hY2.out hnw);obtain⟨z,hz⟩:∃ z,z=Ym new:=⟨_,rfl⟩;rw[<-hz] at hWE hcall;clear hz hb2 c0 hnm hcf hB hT1 hX1 hY1 hW1;go_wp2_with fail;refine hcall.out.mono ?_;rintro e w3 ⟨rfl,hb3⟩;have hbW3:=iD (hbW2.out.trans (hb3.mono hbW2.out.size));by_cases hz0:z=0
      · subst hz0
        replace hWE:Hid (res=if Z4 T n=old then 0 else 12):=iD (hWE.out.trans (if_pos rfl));have hB3:=hB2.out.below hb3 hB2.out.lt;have hT3:=hT2.out.stayB hb3;have hX3:=hX2.out.stayB hb3;obtain⟨su,hsu,hst⟩:=Z57 T _ n ok w3 hT3 hlT hs.out;have d0:∀ s:X1 w3,s.1.cell? ⟨w.heap.size,0,none⟩=some (.string ⟨n.toArray⟩):=fun s=>by rw[(Z4j hB3 s).cell];rfl
        have d1:∀ s:X1 w3,s.1.cell? ⟨w.heap.size,1,none⟩=some (.slice XA old.length xc):=fun s=>by rw[(Z4j hB3 s).cell];rfl
        have heq:=iD (fun s:X1 w3=>Zgj (Z4 T n) old su _ ok ok1 s.1 (hsu.stayB s.2) (hX3.stayB s.2) ⟨by
          have:=Z2z hf'.out n;exact this.len,(Z2z hf'.out n).ok⟩ hor)
        have hst':=iD (fun s:X1 w3=>hst s.1 s.2);obtain⟨t,ht⟩:∃ t,t=decide (Z4 T n=old):=⟨_,rfl⟩;rw[<-ht] at heq;have hfin:Hid (res=if t then 0 else 12):=iD (by rw[hWE.out,ht];by_cases he:Z4 T n=old <;> simp[he]);replace d0:=iD d0;replace d1:=iD d1;obtain⟨SA,sc,rfl,_,_⟩:=id hsu;clear ht hWE hst hsu hb3 hcall d2 hT3 hX3 hB3 hT2 hX2 hY2 hB2;haveI:=Qt w3;go_wp2;refine Kj (by kernel_rfl) (by kernel_rfl) ?_;repeat (first
          | (refine Z9m 9 (.tmp 24) rfl rfl w.heap.size 0 rfl (.string ⟨n.toArray⟩) (fun w hw=>?_) Zgs ?_
             · obtain⟨s,rfl⟩:=hw
               exact d0.out s
             go_frame)
          | (refine Z9m 37 (.tmp 27) rfl rfl w.heap.size 1 rfl (.slice XA old.length xc) (fun w hw=>?_) aggHd ?_
             · obtain⟨s,rfl⟩:=hw
               exact d1.out s
             go_frame)
          | go_big_quiet_step ((first
              | (go_at_call 89;exact Vq _ (hst'.out _))
              | (go_at_call 70;exact Vq _ (heq.out _)))))
        refine lY ?_;rintro _ ⟨s,rfl⟩;have hb4:=hbW3.out.trans (s.2.mono hbW3.out.size);obtain⟨w4,hw4⟩:=s;dsimp only at hb4 ⊢;clear this hw4 hst' heq d0 d1;cases t with
        | true =>
          replace hfin:Hid (res=0):=iD (by rw[hfin.out];rfl);go_wp2;go_ret;exact⟨O8 hfin.out.symm,hb4⟩
        | false =>
          replace hfin:Hid (res=12):=iD (by rw[hfin.out];rfl);go_wp2;go_ret;exact⟨O8 hfin.out.symm,hb4⟩
      · have g1:(z != 0)=true:=by simpa using hz0
        have hfin:Hid (res=z):=iD (by rw[hWE.out,if_neg hz0]);clear hb3;go_wp2;go_ret;exact⟨O8 hfin.out.symm,hbW3.out⟩
end Go.Proofs.YtfdimggmljkkbaaGreatDoor
end
end
section
section
namespace Go.Proofs.YtfdimggmljkkbaaGreatDoor
open Go.RowKit
def Yc(w:World)(base:Nat)(b:Nat):Prop:=base<=b/\∃ cs,Blk w b 47 cs
theorem Z30:InfoOf lA 47 (.agg Z3.toArray) 32 32:=⟨by kernel_rfl,rfl,by omega⟩
theorem Z58:InfoOf lA 192 (.agg Xg.toArray) 2 40:=⟨by kernel_rfl,rfl,by omega⟩
theorem Gb{w:World}{base:Nat}{v:Value}{l:List Str}(h:w.ownsRow base 47 32 v l.length (Zy l)):Z7 w (Yc w base) v l:=by
 obtain⟨h1,h2⟩:=h;rcases h2 with ⟨rfl,h0⟩ | ⟨g,cap,cur,rfl,hb,hg,hc1,hc2,hc3,ht⟩
 ·have : l=[]:=nJ h0;subst this;exact Z7.nil
 ·have hB:Blk w g 47 cur.toList:=by unfold Blk;simpa using hg
  refine⟨_,cap,rfl,hc1,Rd.of_blk (r:=cur.toList.drop (l.length*32)) hB (by rw[nA,<-ht,nB]) ⟨hb,_,hB⟩⟩
def Zgy(w:World)(l:List Str)(e:Ending)(w':World):Prop:=∃ u,e=.returned u/\Z7 w' (Yc w' w.heap.size) u l/\Below w.heap.size w w'
theorem Z59(w:World)(T:TypeId)(s:Nat):(w.alloc (.cells #[] T)).ownsRow w.heap.size T s (.slice (some ⟨w.heap.size,0,none⟩) 0 0) 0 []:=by
 refine⟨by simp,.inr ⟨w.heap.size,0,#[],rfl,lH _,nX w _,lH _,lI _,by simp,by simp⟩⟩
theorem Z31(l:List Str)(v:Value)(ok:Nat->Prop)(w:World)(h:Z7 w ok v l)(hf:HFit l) :
  Calls lA 40 #[v] w (Zgy w l):=by
 obtain⟨A,c,rfl,hc,hr⟩:=h;have hl:=hf.len;have hlen:=iD (Vx hf.ok);have hone:=iD (Z00 l);have hq:=fun w=>Lib.run_eql_slice_nil (P:=lA) w 37 47 A l.length c 0 0 underlying37;cases A with
 | none =>
  have h0:Hid (l=[]):=iD (by
   cases l with
   | nil=>rfl
   | cons d r =>
    obtain⟨ad,e,_⟩:=hr (by rw[hlen.out,lF];omega);cases e)
  clear hr hf;go_enter func40,ntmps40;go_wp2;go_ret;exact⟨_,rfl,by rw[h0.out];exact Z7.nil,lG _ _⟩
 | some ad =>
  have hrd:Hid (Rd (w.alloc (.cells #[] 47)) (fun b=>b<w.heap.size) (some ad) (Zy l)):=iD (hr.stay (fun b _ hlt=>nZ _ _ _ hlt) (fun b _ hlt=>hlt));have hown:=iD (Z59 w 47 32);have hb0:Hid (Below w.heap.size w (w.alloc (.cells #[] 47))):=iD bL;clear hr hf;go_enter func40,ntmps40;go_wp2_with (at_builtin;refine X0 _ rfl (.tmp 5) (.tmp 6) 37 rfl w.heap.size 47 (.agg Z3.toArray) 32 32 underlying37 Z30 (.slice (some ⟨w.heap.size,0,none⟩) 0 0) 0 [] rfl hown.out (fun b=>b<w.heap.size) (some ad) l.length c (Zy l) rfl hlen.out hrd.out hone.out (by unfold maxLen;omega) (by omega) (by simp) ?_;intro v' w2 hrow2 hg2 hv2;replace hrow2:=iD hrow2;replace hg2:=iD hg2;obtain⟨VA,vc,rfl,_,_⟩:=Z6 hrow2.out;go_frame);go_ret;refine⟨_,rfl,Gb (by have:=hrow2.out;simpa using this),?_⟩;exact hb0.out.trans (Yd hown.out hg2.out (by simp))
end Go.Proofs.YtfdimggmljkkbaaGreatDoor
end
section
namespace Go.Proofs.YtfdimggmljkkbaaGreatDoor
open Go.RowKit
theorem V5{P:Program}(w:World){ops:Array Oper}{o:Oper}{a:Act}{K:Act->World->Prop}{Q:Exit->Act->World->Prop}{E:Prop}(hgd:o.guard=none)(s x:Operand)(t:TypeId)
  (ho:o.op=.call { callee:=.builtin .append,args:=#[s,x],argTypes:=#[t,t] })
  (base:Nat) (e:TypeId) (z:Value) (size bytes:Nat) (ht:P.underlying t=some (.slice e)) (hI:InfoOf P e z size bytes)
  (v:Value) (n:Nat) (xs:List Value) (hs:a.eval s=v) (hown:w.ownsRow base e size v n xs)
  (ok:Nat->Prop) (A:Option Addr) (m c:Nat) (news:List Value) (hx:a.eval x=.slice A m c) (hm:news.length=m*size) (hr:Rd w ok A news) (h1:∀ u ∈ news,u.oneCell'=true)
  (h63:n+m<=maxLen) (hbytes:(n+m)*bytes<=140737488355328) (hbase:base<=w.heap.size)
  (h:∀ v' w',w'.ownsRow base e size v' (n+m) (xs++news)->w.grownBy w' v.ownBlock->(v'.ownBlock=v.ownBlock ∨ v'.ownBlock=some w.heap.size)->K (a.put o.dst v') w') :
  if nM o (yielded ops a.tmps)=true then Oper.wp P o a w K Q else E:=by
 have hw:nM o (yielded ops a.tmps)=true:=by simp[nM,hgd]
 rw[if_pos hw];exact Z7s w s x t ho base e z size bytes ht hI v n xs hs hown ok A m c news hx hm hr h1 h63 hbytes hbase h
section
variable {w w':World} {base base':Nat} {u:Value} {l:List Str}
theorem Z7.keep(h:Z7 w (Yc w base) u l)(hk:∀ b cs,base<=b->Blk w b 47 cs->Blk w' b 47 cs):Z7 w' (Yc w' base) u l :=
 h.stay (fun b hb _=>by
  obtain⟨h1,cs,h2⟩:=hb;have h3:=hk b cs h1 h2;unfold Blk at h2 h3;rw[h2,h3]) (fun b hb _=>by
  obtain⟨h1,cs,h2⟩:=hb;exact⟨h1,cs,hk b cs h1 h2⟩)
theorem Z7.keepB(h:Z7 w (Yc w base) u l)(hb:Below w.heap.size w w'):Z7 w' (Yc w' base) u l:=h.keep (fun _ _ _ hB=>hB.below hb hB.lt)
theorem Z7.lower(h:Z7 w (Yc w base) u l)(hb:base'<=base):Z7 w (Yc w base') u l:=h.stay (fun _ _ _=>rfl) (fun _ ⟨h1,cs,h2⟩ _=>⟨nW hb h1,cs,h2⟩)
theorem Z7.keepRow{v:Value}{n:Nat}{xs:List Value}{T:TypeId}{s:Nat}(h:Z7 w (Yc w base) u l)(ho:w.ownsRow base' T s v n xs)(hT:T ≠ 47)(hg:w.grownBy w' v.ownBlock):Z7 w' (Yc w' base) u l :=
 h.keep (fun b cs _ hB=>hB.grown hg (fun e=>by
  rcases ho.2 with ⟨rfl,_⟩ | ⟨g',cap,cur,rfl,_,hg',_⟩
  ·cases e
  ·have e':b=g':=by simpa[lV] using e
   subst e';unfold Blk at hB;rw[hg'] at hB
   injection hB with hB
   injection hB with _ ht
   exact hT ht))
end
def Zz(w:World)(base:Nat)(v:Value)(T:Tab):Prop:=∃ vs,vs.length=T.length/\w.ownsRow base 192 2 v T.length (Y4 T vs)/\∀ (k:Nat) b u,T[k]?=some b->vs[k]?=some u->Z7 w (Yc w base) u b.heads
section
variable {w w':World} {base base':Nat} {v:Value} {T:Tab}
theorem Zz.nil:Zz w base (.slice none 0 0) []:=⟨[],rfl,⟨rfl,.inl ⟨rfl,rfl⟩⟩,fun k b u h _=>by simp at h⟩
theorem Zz.form(h:Zz w base v T):∃ A c,v=.slice A T.length c/\T.length<=c:=by
 obtain⟨vs,_,ho,_⟩:=h;obtain⟨A,c,e,hc,_⟩:=Z6 ho;exact⟨A,c,e,hc⟩
theorem Zz.keepB(h:Zz w base v T)(hb:Below w.heap.size w w'):Zz w' base v T:=by
 obtain⟨vs,hl,ho,hh⟩:=h;exact⟨vs,hl,Zk (L:=[]) ho (Touch.ofBelow hb) (by simp),fun k b u h1 h2=>(hh k b u h1 h2).keepB hb⟩
theorem Zz.lower(h:Zz w base v T)(hb:base'<=base):Zz w base' v T:=by
 obtain⟨vs,hl,⟨e1,e2⟩,hh⟩:=h;refine⟨vs,hl,⟨e1,?_⟩,fun k b u h1 h2=>(hh k b u h1 h2).lower hb⟩;rcases e2 with e2 | ⟨gx,cap,cur,e3,e4,e5⟩
 ·exact .inl e2
 ·exact .inr ⟨gx,cap,cur,e3,by omega,e5⟩
def TbAt(w:World)(base b:Nat):Prop:=base<=b/\((∃ cs,Blk w b 47 cs) ∨ ∃ cs,Blk w b 192 cs)
theorem Zz.tab(h:Zz w base v T):TabIs w (TbAt w base) v T:=by
 obtain⟨vs,hl,ho,hh⟩:=h;have hh':∀ (k:Nat) b u,T[k]?=some b->vs[k]?=some u->Z7 w (TbAt w base) u b.heads:=fun k b u h1 h2=>(hh k b u h1 h2).stay (fun _ _ _=>rfl) (fun b hb _=>⟨hb.1,.inl hb.2⟩);rcases ho.2 with ⟨rfl,h0⟩ | ⟨g,cap,cur,rfl,hb,hg,hc1,hc2,hc3,ht⟩
 ·have : T=[]:=nJ h0;subst this;exact TabIs.nil
 ·have hB:Blk w g 192 cur.toList:=by unfold Blk;simpa using hg
  exact⟨_,cap,vs,hl,rfl,hc1,Rd.of_blk (r:=cur.toList.drop (T.length*2)) hB (by rw[nA,<-ht,nB]) ⟨hb,.inr ⟨_,hB⟩⟩,hh'⟩
end
theorem Zgz(T:Tab)(vs:List Value)(hl:vs.length=T.length)(b:Br)(u:Value):Y4 (T++[b]) (vs++[u])=Y4 T vs++[Z0 b.name,u]:=Z10 T vs hl [b] [u]
theorem Zz.snoc{w':World}{base:Nat}{v':Value}{T:Tab}{vs:List Value}{b:Br}{u:Value}(hl:vs.length=T.length)(hh:∀ (k:Nat) b u,T[k]?=some b->vs[k]?=some u->Z7 w' (Yc w' base) u b.heads)
  (hu:Z7 w' (Yc w' base) u b.heads) (hrow:w'.ownsRow base 192 2 v' (T.length+1) (Y4 T vs++[Z0 b.name,u])):Zz w' base v' (T++[b]):=by
 refine⟨vs++[u],by simp[hl],by rw[Zgz T vs hl];simpa using hrow,fun k b' u' h1 h2=>?_⟩;by_cases hk:k<T.length
 ·rw[kS hk] at h1;rw[kS (by omega)] at h2;exact hh k b' u' h1 h2
 ·rw[kT (by omega)] at h1;rw[kT (by omega)] at h2;have hk':k=T.length:=by
   have:=(lP.1 h1).1;simp at this;omega
  subst hk';simp only[kU,n0,lW] at h1;rw[hl] at h2;simp only[kU,n0,lW] at h2;subst h1;subst h2;exact hu
def Z5a(w:World)(T:Tab)(e:Ending)(w':World):Prop:=∃ v,e=.returned v/\Zz w' w.heap.size v T/\Below w.heap.size w w'
theorem Z9n(T:Tab)(v:Value)(ok:Nat->Prop)(w:World)(h:TabIs w ok v T)(hf:TFit T) :
  Calls lA 108 #[v] w (Z5a w T):=by
 obtain⟨A,c,rfl,hc⟩:=h.form;have hT:=iD h.ltB;have hlen:=hf.len;have hok:=iD hf.ok;clear h hf hc;go_enter func108,ntmps108;go_wp2;go_loopw [8,3] (fun i v wr=>∃ k:Nat,k<=T.length/\i=.int .i64 k/\Zz wr w.heap.size v (T.take k)/\Below w.heap.size w wr) (fun i _ _=>T.length - (intOf i).toNat)
 case atStart=>exact⟨0,lI _,rfl,Zz.nil,lG _ _⟩
 case round =>
  obtain⟨k,hk,rfl,hO,hb⟩:=hrel;by_cases hlt:k<T.length
  ·obtain⟨b,o,u,rfl,hbl,_,hU,c0,c1⟩:=(hT.out.low hb).br k hlt;have hbf:=hok.out T[k] (lL hlt);have htk:Hid (T.take (k+1)=T.take k++[T[k]]):=iD (Oe hlt);have hkl:(T.take k).length=k:=by rw[lD];omega
   obtain⟨br,hbr⟩:∃ br,br=T[k]:=⟨_,rfl⟩;rw[<-hbr] at hU c0 hbf htk;obtain⟨P,hP⟩:∃ P,P=T.take k:=⟨_,rfl⟩;rw[<-hP] at hO htk hkl;clear hbr hP;have hhf:=hbf.heads;have hhl:=hbf.heads.len;have hnl:=hbf.name;obtain⟨n,hs⟩:=br;dsimp only at hU c0 hhf hhl hnl;obtain⟨UA,uc,rfl,huc,_⟩:=id hU;have hcells:=iD (Z11 c0 c1);obtain⟨hX1,hbx1⟩:=Z2v wr 192 Xg [Z0 n,.slice UA hs.length uc];obtain⟨W1,hW1⟩:∃ W1,W1=(wr.alloc (.cells Xg.toArray 192)).setRow wr.heap.size [Z0 n,.slice UA hs.length uc].toArray:=⟨_,rfl⟩;rw[<-hW1] at hX1 hbx1;replace hW1:=iD hW1;have hone:Hid (∀ v ∈ [Z0 n,lC UA hs.length uc],v.oneCell'=true):=iD (by simp[Z0,lR]);have hU1:=hU.low (hbx1.mono hb.size);have hO1:=hO.keepB hbx1;have hbW:=hb.trans (hbx1.mono hb.size);have d0:W1.cell? ⟨wr.heap.size,0,none⟩=some (.string ⟨n.toArray⟩):=by rw[hX1.cell];rfl
   have d1:W1.cell? ⟨wr.heap.size,1,none⟩=some (.slice UA hs.length uc):=by rw[hX1.cell];rfl
   have hgl:wr.heap.size<W1.heap.size:=hX1.lt;have i1:(0:Int)<=(k:Int):=by omega
   have i2:(k:Int)<(T.length:Int):=by omega
   obtain⟨vs,hvl,hrow,hheads⟩:=hO1;obtain⟨FA,fc,rfl,_,_⟩:=Z6 hrow;have hne:∀ b,(lC FA P.length fc).ownBlock=some b->b<wr.heap.size:=by
    obtain⟨_,_,ho,_⟩:=hO;exact fun b hb=>(ho.lt b hb).2
   rw[hkl] at hne;rw[hkl] at hrow ⊢;replace hrow:=iD hrow;replace hheads:=iD hheads;replace hU1:=iD hU1;replace hbW:=iD hbW;replace hkl:=iD hkl;replace hvl:=iD hvl;clear c0 c1 hU hO hb hbx1 hX1 hbf;go_wp2_with (first
    | (refine Vv 192 (.tmp 10) rfl rfl b (o+k*2) rfl [Z0 n,.slice UA hs.length uc] hcells.out _ underlying192 rfl X7 ?_;go_frame)
    | (refine Zo rfl 192 (.tmp 5) (.tmp 11) rfl wr.heap.size [Z0 n,.slice UA hs.length uc] rfl rfl 192 Xg (Blk.new_at rfl) rfl X7 hone.out ?_;rw[show (wr.alloc (lJ #[lM ⟨#[]⟩,lC none 0 0] 192)).setRow wr.heap.size [Z0 n,.slice UA hs.length uc].toArray=W1 from hW1.out.symm];go_frame))
   have hO1:Hid (∀ W,Below W1.heap.size W1 W->W.ownsRow w.heap.size 192 2 (.slice FA k fc) k (Y4 P vs)/\(∀ (k:Nat) b u,P[k]?=some b->vs[k]?=some u->Z7 W (Yc W w.heap.size) u b.heads)/\Z7 W (· < w.heap.size) (.slice UA hs.length uc) hs/\Below w.heap.size w W/\W.cell? ⟨wr.heap.size,0,none⟩=some (.string ⟨n.toArray⟩)/\W.cell? ⟨wr.heap.size,1,none⟩=some (.slice UA hs.length uc)):=iD (fun W hW =>
    ⟨Zk (L:=[]) hrow.out (Touch.ofBelow hW) (by simp),fun k b u h1 h2=>(hheads.out k b u h1 h2).keepB hW,hU1.out.stayB hW,hbW.out.trans (hW.mono hbW.out.size),(by rw[hW.cell (p:=⟨wr.heap.size,0,none⟩) hgl];exact d0),(by rw[hW.cell (p:=⟨wr.heap.size,1,none⟩) hgl];exact d1)⟩)
   have hS4:Hid (∀ W o W4,Below W1.heap.size W1 W->(W.alloc o).grownBy W4 (lC FA k fc).ownBlock->W4.cell? ⟨wr.heap.size,0,none⟩=some (.string ⟨n.toArray⟩)/\W4.cell? ⟨wr.heap.size,1,none⟩=some (.slice UA hs.length uc)):=iD (fun W o W4 hW hg=>by
    have hlt:wr.heap.size<W.heap.size:=nL hgl hW.size;have hblk:W4.heap[wr.heap.size]?=W.heap[wr.heap.size]?:=(hg.block _ (by simp;omega) (fun e=>by have:=hne _ e.symm;omega)).trans (nZ W o _ hlt);have e0:W4.cell? ⟨wr.heap.size,0,none⟩=W.cell? ⟨wr.heap.size,0,none⟩:=nN hblk;have e1:W4.cell? ⟨wr.heap.size,1,none⟩=W.cell? ⟨wr.heap.size,1,none⟩:=nN hblk;rw[e0,e1];exact (hO1.out W hW).2.2.2.2)
   clear hne;have hsz1:=hbW.out.size;have hbd:Below W1.heap.size W1 W1.drew:=(lG _ _).drew;clear hW1;go_region_held3 (fun w'=>w'.cell? ⟨wr.heap.size,0,none⟩=some (.string ⟨n.toArray⟩)/\w'.cell? ⟨wr.heap.size,1,none⟩=some (.slice UA hs.length uc)) (first | exact hS4.out _ _ _ hb3.out hg4.out | exact (hO1.out _ hb3.out).2.2.2.2 | go_keep)
    (first
     | (go_at_call 40;(with_reducible refine (Z31 hs _ _ W1.drew (hO1.out _ hbd).2.2.1 hhf).mono ?_);rintro e W3 ⟨cu,rfl,hcu,hb3'⟩;have hb3:=iD (hbd.trans hb3');clear hb3';obtain⟨CA,cc,rfl,hcc1,hcc2⟩:=id hcu;replace hcu:=iD hcu)
     | (refine V5 _ rfl (.tmp 12) (.tmp 19) 51 rfl w.heap.size 192 (.agg Xg.toArray) 2 40 underlying51 Z58 (.slice FA k fc) k (Y4 P vs) rfl ((hO1.out _ hb3.out).1.alloc _) (fun _=>True) (some ⟨W3.heap.size,0,none⟩) 1 1 [.string ⟨n.toArray⟩,.slice CA hs.length cc] rfl rfl (Rd.of_blk (cs:=[.string ⟨n.toArray⟩,.slice CA hs.length cc]) (r:=[]) (Blk.new_at rfl) rfl trivial) (by simp[lR]) (by unfold maxLen;omega) (by omega) (by have:=hb3.out.size;simp;omega) ?_;intro v' W4 hrow4 hg4 hv4;replace hrow4:=iD hrow4;replace hg4:=iD hg4;obtain⟨VA,vc,rfl,_,_⟩:=Z6 hrow4.out))
   have hO3:=iD (hO1.out _ hb3.out);clear hO1 hS4 hcc2 hbd;go_wp2;go_roundw
   case rel =>
    obtain⟨r3,h3,_,bw3,_⟩:=hO3.out;have hba:Below W3.heap.size W3 (W3.alloc (lJ #[lM ⟨n.toArray⟩,lC CA hs.length cc] 192)):=bL;have hro:=r3.alloc (lJ #[lM ⟨n.toArray⟩,lC CA hs.length cc] 192);refine⟨k+1,by omega,by go_num,?_,?_⟩
    ·rw[htk.out];refine Zz.snoc (b:=⟨n,hs⟩) (vs:=vs) hvl.out (fun k b u h1 h2=>((h3 k b u h1 h2).keepB hba).keepRow hro (by decide) hg4.out) (((hcu.out.lower hsz1).keepB hba).keepRow hro (by decide) hg4.out) ?_;rw[hkl.out];exact hrow4.out
    ·exact bw3.trans ((hba.mono bw3.size).trans (Yd hro hg4.out (by have:=bw3.size;simp;omega)))
   case measure=>simp[intOf];omega
  ·obtain rfl:k=T.length:=by omega
   rw[lU] at hO;obtain⟨FA,fc,rfl,_⟩:=hO.form;replace hO:=iD hO;go_wp2;go_ret;exact⟨_,rfl,hO.out,hb⟩
end Go.Proofs.YtfdimggmljkkbaaGreatDoor
end
end
section
section
namespace Go.Proofs.YtfdimggmljkkbaaGreatDoor
open Go.RowKit
section
variable {P:Program} (w:World)
theorem Z9o(t elem:TypeId)(s:Nat)(hu:P.underlying t=some (.slice elem))(hs:(P.info? elem).map (·.size)=some s)(A:Option Addr)(n cap k j m:Nat)(hk:k<=j)(hj:j<=m)(hm:m<=cap) :
  (nO t (.slice A n cap) (some (.int .i64 (k:Int))) (some (.int .i64 (j:Int))) (some (.int .i64 (m:Int)))).run P w=.ok (.slice (cutA A m k s) (j - k) (m - k)) w:=by
 cases hq:P.info? elem with
 | none=>simp[hq] at hs
 | some i =>
  have hi:i.size=s:=by simpa[hq] using hs
  simp[nO,kV,l9 hu,kW,run_sliceBound,sizeOf,typeInfo,hq,hi,hk,hj,hm,cutA]
theorem Z06(t elem:TypeId)(s:Nat)(hu:P.underlying t=some (.slice elem))(hs:(P.info? elem).map (·.size)=some s)(A:Option Addr)(n cap j:Nat)(hj:j<=cap) :
  (nO t (.slice A n cap) none (some (.int .i64 (j:Int))) none).run P w=.ok (.slice A j cap) w:=by
 cases hq:P.info? elem with
 | none=>simp[hq] at hs
 | some i =>
  have ha:∀ a:Addr,a.add 0=a:=fun a=>by unfold Addr.add;simp
  cases A <;> simp[nO,kV,l9 hu,kW,run_sliceBound,sizeOf,typeInfo,hq,hj,ha]
theorem Zh0(dT sT ty elem:TypeId)(s:Nat)(g o dLen dCap:Nat)(a:Addr)(sLen sCap:Nat)(cur:List Value)(t:TypeId)(cs:List Value)
  (hu:P.underlying dT=some (.slice elem)) (hs:(P.info? elem).map (·.size)=some s)
  (hg:Blk w g t cur) (hn:cs.length=lT sLen dLen*s)
  (hsrc:∀ j v,cs[j]?=some v->w.cell? (a.add j)=some v) (hfit:o+cs.length<=cur.length) (h1:∀ v ∈ cs,v.oneCell'=true) :
  (Builtin.copy_ #[dT,sT] ty #[.slice (some ⟨g,o,none⟩) dLen dCap,.slice (some a) sLen sCap]).run P w =
   .ok (goInt (lT sLen dLen)) (w.setRow g (splice cur o cs).toArray):=by
 have hl:=kX (P:=P) w a cs hsrc;have hst:=kY P g o t cs 0 cur.toArray w hg (by simpa using hfit) h1;cases hq:P.info? elem with
 | none=>simp[hq] at hs
 | some i =>
  have hi:i.size=s:=by simpa[hq] using hs
  simp only[n1] at hst;simp[Builtin.copy_,l9 hu,Builtin.lenOf,n2,sizeOf,typeInfo,hq,hi,<-hn,hl,hst,splice]
end
theorem Zh1(w:World)(ty:TypeId)(g o c:Nat)(cur:List Value)(hg:Blk w g 192 cur)(hfit:o+2<=cur.length) :
  (Builtin.clear_ #[51] ty #[.slice (some ⟨g,o,none⟩) 1 c]).run lA w=.ok (.tuple #[]) (w.setRow g (splice cur o Xg).toArray):=by
 have hst:=kY lA g o 192 Xg 0 cur.toArray w hg (by simpa[Xg] using hfit) (by simp[Xg,lR]);simp only[n1] at hst;have hz:(nC (l0 #[.string ⟨#[]⟩,.slice none 0 0]).cells 1).toList=Xg:=by kernel_rfl
 simp[Builtin.clear_,l9 underlying51,hz,hst,splice]
theorem Z9p{w:World}{base:Nat}{v:Value}{n:Nat}{xs:List Value}(h:w.ownsRow base 192 2 v n xs)(hn:0<n) :
  ∃ g cap cur,v=.slice (some ⟨g,0,none⟩) n cap/\base<=g/\Blk w g 192 cur/\n<=cap/\cap<=maxLen/\cur.length=cap*2/\cur.take (n*2)=xs:=by
 rcases h.2 with ⟨_,h0⟩ | ⟨g,cap,cur,rfl,hb,hg,h1,h2,h3,h4⟩
 ·omega
 ·exact⟨g,cap,cur.toList,rfl,hb,by unfold Blk;simpa using hg,h1,h2,by simpa using h3,h4⟩
theorem Z32{w:World}{base g cap n:Nat}{cur xs:List Value}(hb:base<=g)(hg:Blk w g 192 cur)(h1:n<=cap)(h2:cap<=maxLen)(h3:cur.length=cap*2)(h4:cur.take (n*2)=xs) :
  w.ownsRow base 192 2 (.slice (some ⟨g,0,none⟩) n cap) n xs :=
 ⟨by rw[<-h4,lD,h3];omega,.inr ⟨g,cap,cur.toArray,rfl,hb,hg,h1,h2,by simpa using h3,by simpa using h4⟩⟩
def Z1c(w:World)(base:Nat)(v:Value)(n:Nat)(xs:List Value)(e:Ending)(w':World):Prop :=
 ∃ v',e=.returned v'/\w'.ownsRow base 192 2 v' n xs/\w.grownBy w' v.ownBlock/\(v'.ownBlock=v.ownBlock ∨ ∀ b,v'.ownBlock=some b->w.heap.size<=b)
theorem Z33{w:World}{g:Nat}(c:Array Value):w.grownBy (w.setRow g c) (some g):=⟨rfl,rfl,rfl,by simp[World.setRow],fun k _ hne=>setRow_other _ _ _ _ (fun e=>hne (by rw[e]))⟩
theorem Z5b{w w1 w2:World}{r:Option Nat}(h1:w.grownBy w1 r)(h2:w1.grownBy w2 r):w.grownBy w2 r :=
 ⟨h2.os.trans h1.os,h2.tape.trans h1.tape,h2.output.trans h1.output,nW h1.size h2.size,fun k hk hne=>(h2.block k (nL hk h1.size) hne).trans (h1.block k hk hne)⟩
theorem Zh2:∃ i,lA.info? 192=some i/\i.size=2:=by
 have h:=X7;cases hq:lA.info? 192 with
 | none=>simp[hq] at h
 | some i=>exact⟨i,rfl,by simpa[hq] using h⟩
theorem Zh3(base:Nat)(v:Value)(n i:Nat)(xs:List Value)(w:World)(ho:w.ownsRow base 192 2 v n xs)(hi:i<n)(hn:n<=4398046511104)(h1:∀ u ∈ xs,u.oneCell'=true) :
    Calls lA 182 #[v,.int .i64 i,.int .i64 ((i:Int)+1)] w (Z1c w base v (n - 1) (xs.take (i*2)++xs.drop ((i+1)*2))):=by
  obtain⟨g,cap,cur,rfl,hbg,hB,hc1,hc2,hcl,hct⟩:=Z9p ho (by omega);obtain⟨inf,hinf,hinfs⟩:=Zh2;have e1:((i+1:Nat):Int)=(i:Int)+1:=rfl;have s1:=fun w=>Z9o (P:=lA) w 51 192 2 underlying51 X7 (some ⟨g,0,none⟩) n cap i (i+1) n (by omega) (by omega) hc1;have s2:=fun w=>Z06 (P:=lA) w 51 192 2 underlying51 X7 (some ⟨g,0,none⟩) n cap i (by omega);have s3:=fun w=>K4 (P:=lA) w 51 192 2 underlying51 X7 (some ⟨g,0,none⟩) n cap (i+1) (by omega);have s4:=fun w=>Zeg (P:=lA) w 51 192 2 underlying51 X7 (some ⟨g,0,none⟩) (n - 1) cap (n - 1) n (by omega) hc1;have ec:cutA (some ⟨g,0,none⟩) cap (n - 1) 2=some ⟨g,(n - 1)*2,none⟩:=by
    unfold cutA;rw[if_neg (by omega)];simp[Xj]
  rw[ec,show n - (n - 1)=1 by omega] at s4;rw[e1] at s1 s3;have hne:((i:Int) == (i:Int)+1)=false:=by rw[beq_eq_false_iff_ne];omega
  have hn0:0<n:=by omega
  replace s1:=iD s1;replace s2:=iD s2;clear s3;replace s4:=iD s4;have hpre:w.ownsRow base 192 2 (.slice (some ⟨g,0,none⟩) i cap) i (xs.take (i*2)):=Z32 hbg hB (by omega) hc2 hcl (by rw[<-hct,nD];congr 1;omega);have hxl:xs.length=n*2:=ho.1;have hnews:(xs.drop ((i+1)*2)).length=(n - (i+1))*2:=by rw[lE,hxl];omega
  have hsrc:∀ ad,(if cap=i+1 then some (⟨g,0,none⟩:Addr) else some ⟨g,(i+1)*2,none⟩)=some ad->∀ j u,(xs.drop ((i+1)*2))[j]?=some u->w.cell? (ad.add j)=some u:=fun ad had j u hu=>by
    have hj:j<(xs.drop ((i+1)*2)).length:=(lP.1 hu).1;rw[if_neg (by omega)] at had;simp only[lW] at had;subst had;rw[Xj,hB.cell];rw[n3] at hu;rw[<-hct,nE (by omega)] at hu;exact hu
  have hnone:(if cap=i+1 then some (⟨g,0,none⟩:Addr) else some ⟨g,(i+1)*2,none⟩)=none->n - (i+1)=0/\cap - (i+1)=0:=fun h=>by
    split at h <;> cases h
  have hone:Hid (∀ u ∈ xs.drop ((i+1)*2),u.oneCell'=true):=iD (fun u hu=>h1 u (nF hu));replace hpre:=iD hpre;replace hnews:=iD hnews;replace hsrc:=iD hsrc;replace hnone:=iD hnone;replace hct:=iD hct;replace hcl:=iD hcl;replace hxl:=iD hxl;replace hinf:=iD hinf;replace hinfs:=iD hinfs;have i1:(0:Int)<=(i:Int):=by omega
  clear h1 ec e1;have hs1:=s1.out;have hs4:=s4.out;go_enter func182,ntmps182;go_wp2_with fail;refine Ye 6 (by kernel_rfl) (by kernel_rfl) ?_;simp only[nG,n4,nH,nA];repeat (first
    | (refine Yp (l3 51 (.tmp 20) none (some (.tmp 21)) none) rfl rfl (.slice (some ⟨g,0,none⟩) i cap) (fun w _=>?_) ?_
       · have e0:∀ k:Nat,k=k:=fun _=>rfl
         exact (congrArg (fun r=>lQ r _) (s2.out w))
       go_frame)
    | go_big_quiet_step (fail))
  refine lY ?_;rintro _ ⟨nq,rfl⟩;refine wpList_append_fits_any (w.drewN nq) rfl (.tmp 22) (.tmp 25) 51 rfl base 192 inf 2 underlying51 hinf.out hinfs.out g i cap (xs.take (i*2)) rfl hpre.out (if cap=i+1 then some (⟨g,0,none⟩:Addr) else some ⟨g,(i+1)*2,none⟩) (n - (i+1)) (cap - (i+1)) (xs.drop ((i+1)*2)) rfl hnews.out hnone.out hsrc.out hone.out (by omega) ?_;intro w2 hrow2 hg2;have en:i+(n - (i+1))=n - 1:=by omega
  rw[en] at hrow2 ⊢;generalize (if cap=i+1 then some (⟨g,0,none⟩:Addr) else some ⟨g,(i+1)*2,none⟩)=AA;have hg3:w.grownBy w2 (some g):=⟨hg2.os,hg2.tape,hg2.output,hg2.size,hg2.block⟩;have hrow3:∃ cur2,Blk w2 g 192 cur2/\cur2.length=cap*2/\cur2.take ((n - 1)*2)=xs.take (i*2)++xs.drop ((i+1)*2):=by
    rcases hrow2.2 with ⟨h,_⟩ | ⟨g',cap',cur',h,_,hg,_,_,h3,h4⟩
    · cases h
    · injection h with ha hb hc
      injection ha with ha
      injection ha with ha
      subst ha;subst hc;exact⟨cur'.toList,by unfold Blk;simpa using hg,by simpa using h3,h4⟩
  obtain⟨cur2,hB2,hl2,ht2⟩:=hrow3;have hclr:=fun ty=>Zh1 w2 ty g ((n - 1)*2) (cap - (n - 1)) cur2 hB2 (by rw[hl2];omega);replace hB2:=iD hB2;replace hl2:=iD hl2;replace ht2:=iD ht2;replace hg3:=iD hg3;clear hrow2 hg2 en hpre hsrc hnone hnews hs1;go_wp2;go_ret;refine⟨_,rfl,?_,?_,.inl rfl⟩
  · refine Z32 hbg (hB2.out.setRow_same _) (by omega) hc2 ?_ ?_
    · have hz:Xg.length=2:=rfl
      have:=hl2.out;simp only[splice,lB,lD,lE,hz];omega
    · have hlt:(cur2.take ((n - 1)*2)).length=(n - 1)*2:=by rw[lD,hl2.out];omega
      unfold splice;rw[kZ (by rw[hlt];exact lH _),nD,k0];exact ht2.out
  · exact Z5b hg3.out (Z33 _)
end Go.Proofs.YtfdimggmljkkbaaGreatDoor
end
section
namespace Go.Proofs.YtfdimggmljkkbaaGreatDoor
open Go.RowKit
section
variable {α:Type}
theorem Z34(A B C:List α):splice (A++B) A.length C=A++(C++B.drop C.length):=by
 unfold splice;rw[List.take_left,<-List.drop_drop,k1]
theorem Zh4(c S:List α)(a b:α)(o:Nat)(h:o+2<=c.length):splice (splice c (o+2) S) o [a,b]=c.take o++([a,b]++(S++c.drop (o+2+S.length))):=by
 have h1:(c.take (o+2)).length=o+2:=by rw[lD];omega
 unfold splice;have e1:(c.take (o+2)++(S++c.drop (o+2+S.length))).take o=c.take o:=by
  rw[kZ (by omega),nD];congr 1;omega
 have e2:(c.take (o+2)++(S++c.drop (o+2+S.length))).drop (o+[a,b].length)=S++c.drop (o+2+S.length):=by
  have : o+[a,b].length=(c.take (o+2)).length:=by rw[h1];rfl
  rw[this,k1]
 rw[e1,e2]
end
theorem Of{P:Program}{w:World}{ops:Array Oper}{rest:List Oper}{o:Oper}{a:Act}{Q:Exit->Act->World->Prop}(hgd:o.guard=none)(d s:Operand)(dT sT:TypeId)
  (ho:o.op=.call { callee:=.builtin .copy,args:=#[d,s],argTypes:=#[dT,sT] }) (elem:TypeId) (size:Nat) (hu:P.underlying dT=some (.slice elem)) (hsz:(P.info? elem).map (·.size)=some size)
  (g off dLen dCap:Nat) (ad:Addr) (sLen sCap:Nat) (hd:a.eval d=.slice (some ⟨g,off,none⟩) dLen dCap) (hs:a.eval s=.slice (some ad) sLen sCap)
  (cur:List Value) (t:TypeId) (hg:Blk w g t cur) (cs:List Value) (hn:cs.length=lT sLen dLen*size)
  (hsrc:∀ j v,cs[j]?=some v->w.cell? (ad.add j)=some v) (hfit:off+cs.length<=cur.length) (h1:∀ v ∈ cs,v.oneCell'=true)
  (h:wpList P ops Q rest (a.put o.dst (goInt (lT sLen dLen))) (w.setRow g (splice cur off cs).toArray)):wpList P ops Q (o :: rest) a w:=by
 refine wpList_plain hgd fun _ hK=>?_;have hrun:=Zh0 (P:=P) w dT sT o.type elem size g off dLen dCap ad sLen sCap cur t cs hu hsz hg hn hsrc hfit h1;unfold Oper.wp execOp;simp only[ho,resolve,invoke,builtin,kO,kP,kQ,List.map_toArray,List.map_cons,List.map_nil,hd,hs,hrun];exact hK _ _ h
theorem setRow_grown'(w:World)(n g:Nat)(c:Array Value):w.grownBy ((w.drewN n).setRow g c) (some g) :=
 ⟨rfl,rfl,rfl,by simp,fun k _ hne=>setRow_other _ _ _ _ (fun e=>hne (by rw[e]))⟩
theorem Zh5(base:Nat)(v:Value)(n:Nat)(xs:List Value)(gx:Nat)(a b:Value)(w:World)(ho:w.ownsRow base 192 2 v n xs)(hn:n<=2199023255552)
  (hx:Blk w gx 192 [a,b]) (ha:a.oneCell'=true) (hb:b.oneCell'=true) (hbase:base<=w.heap.size) :
  Calls lA 183 #[v,.int .i64 n,.slice (some ⟨gx,0,none⟩) 1 1] w (Z1c w base v (n+1) (xs++[a,b])):=by
 obtain⟨A,cap,rfl,hc1,hc2⟩:=Z6 ho;have hs1:=fun w=>K4 (P:=lA) w 51 192 2 underlying51 X7 A n cap n (by omega);have hrd:Hid (Rd w (fun _=>True) (some ⟨gx,0,none⟩) [a,b]):=iD (Rd.of_blk (r:=[]) hx rfl trivial);have hone:Hid (∀ u ∈ [a,b],u.oneCell'=true):=iD (by simp[ha,hb]);have hnb:(n+1)*40<=140737488355328:=by omega
 replace ho:=iD ho;clear hx ha hb;go_enter func183,ntmps183;go_wp2_with (at_builtin;refine X0 _ rfl (.tmp 23) (.tmp 24) 51 rfl base 192 (.agg Xg.toArray) 2 40 underlying51 Z58 (.slice A n cap) n xs rfl ho.out (fun _=>True) (some ⟨gx,0,none⟩) 1 1 [a,b] rfl rfl hrd.out hone.out (by unfold maxLen;omega) (by omega) hbase ?_;intro v' w2 hrow2 hg2 hv2;replace hrow2:=iD hrow2;replace hg2:=iD hg2;obtain⟨VA,vc,rfl,_,_⟩:=Z6 hrow2.out;go_frame);go_ret;refine⟨.slice VA (n+1) vc,rfl,hrow2.out,hg2.out,?_⟩;rcases hv2 with h | h
 ·exact .inl h
 ·exact .inr (fun k hk=>by rw[h] at hk;injection hk with hk;omega)
theorem Zh6(base n i:Nat)(g cap:Nat)(cur xs:List Value)(gx:Nat)(a b:Value)(w:World)(hbg:base<=g)(hB:Blk w g 192 cur)(hc1:n+1<=cap)(hc2:cap<=maxLen)(hcl:cur.length=cap*2)(hct:cur.take (n*2)=xs)(hn:n<=2199023255552)(hi:i<n)
    (h1:∀ u ∈ xs,u.oneCell'=true) (hx:Blk w gx 192 [a,b]) (ha:a.oneCell'=true) (hb:b.oneCell'=true) (hne:gx ≠ g) :
    Calls lA 183 #[.slice (some ⟨g,0,none⟩) n cap,.int .i64 i,.slice (some ⟨gx,0,none⟩) 1 1] w (Z1c w base (.slice (some ⟨g,0,none⟩) n cap) (n+1) (xs.take (i*2)++[a,b]++xs.drop (i*2))):=by
  have e1:((i+1:Nat):Int)=(i:Int)+1:=rfl;have en:((n+1:Nat):Int)=(n:Int)+1:=rfl;have hs1:=fun w=>K4 (P:=lA) w 51 192 2 underlying51 X7 (some ⟨g,0,none⟩) n cap i (by omega);have hs2:=fun w=>Z06 (P:=lA) w 51 192 2 underlying51 X7 (some ⟨g,0,none⟩) n cap (n+1) hc1;have hs3:=fun w=>K4 (P:=lA) w 51 192 2 underlying51 X7 (some ⟨g,0,none⟩) (n+1) cap (i+1) (by omega);have hs4:=fun w=>K4 (P:=lA) w 51 192 2 underlying51 X7 (some ⟨g,0,none⟩) (n+1) cap i (by omega);have ec:∀ k,k<cap->cutA (some ⟨g,0,none⟩) cap k 2=some ⟨g,k*2,none⟩:=fun k hk=>by
    unfold cutA;rw[if_neg (by omega)];simp[Xj]
  rw[en] at hs2;rw[e1,ec _ (by omega)] at hs3;rw[ec _ (by omega)] at hs1 hs4;have hov:Hid ((k2 #[51,51] #[4] #[.slice (some ⟨gx,0,none⟩) 1 1,.slice (some ⟨g,(i+1)*2,none⟩) (n+1 - (i+1)) (cap - (i+1))]).run lA w=.ok (.bool false) w):=iD (by
    refine Lib.run_overlaps_apart w _ _ 192 underlying51 2 (fun w=>by kernel_rfl) _ _ _ _ _ _ hne 192 192 2 (cap*2) ?_ ?_ (by omega) ?_ ?_
    · unfold Blk at hx;simp[k3,hx]
    · unfold Blk at hB;simp[k3,hB,hcl]
    · exact hx.frozen 0
    · exact hx.frozen 2)
  rw[show n+1 - (i+1)=n - i by omega] at hov hs3;have d1:decide (1<=(cap:Int) - (n:Int))=true:=by simp;omega
  have hgt:decide ((cap:Int)<(n:Int)+1)=false:=decide_eq_false (by omega);have hne2:((i:Int) == (n:Int))=false:=by rw[beq_eq_false_iff_ne];omega
  obtain⟨ys,hys⟩:∃ ys,ys=xs.take (i*2)++[a,b]++xs.drop (i*2):=⟨_,rfl⟩;rw[<-hys];clear ec e1 en;have hxl:xs.length=n*2:=by rw[<-hct,lD,hcl];omega
  have hS:(xs.drop (i*2)).length=(n - i)*2:=by rw[lE,hxl];omega
  have hsrc:∀ j v,(xs.drop (i*2))[j]?=some v->w.cell? ((⟨g,i*2,none⟩:Addr).add j)=some v:=fun j v hv=>by
    have hj:=(lP.1 hv).1;rw[Xj,hB.cell];rw[n3,<-hct,nE (by omega)] at hv;exact hv
  have hfin:Hid ((splice (splice cur ((i+1)*2) (xs.drop (i*2))) (i*2) [a,b]).length=cap*2/\(splice (splice cur ((i+1)*2) (xs.drop (i*2))) (i*2) [a,b]).take ((n+1)*2)=ys):=iD (by
    have e:=Zh4 cur (xs.drop (i*2)) a b (i*2) (by omega);rw[show i*2+2=(i+1)*2 by omega] at e;rw[e];have e2:cur.take (i*2)=xs.take (i*2):=by rw[<-hct,nD];congr 1;omega
    refine⟨by simp only[lB,lD,lE,lF,lX,hcl,hxl];omega,?_⟩;rw[e2,hys,<-lO,<-lO];rw[nP (by simp only[lB,lD,lE,lF,lX,hxl];omega)])
  have hone1:Hid (∀ u ∈ xs.drop (i*2),u.oneCell'=true):=iD (fun u hu=>h1 u (nF hu));have hone2:Hid (∀ u ∈ [a,b],u.oneCell'=true):=iD (by simp[ha,hb]);obtain⟨S,hSS⟩:∃ S,S=xs.drop (i*2):=⟨_,rfl⟩;rw[<-hSS] at hS hsrc hfin hone1;have hB1:Hid (∀ nq,Blk ((w.drewN nq).setRow g (splice cur ((i+1)*2) S).toArray) g 192 (splice cur ((i+1)*2) S)):=iD (fun nq=>(hB.drewN nq).setRow_same _);have hX1:Hid (∀ nq,Blk ((w.drewN nq).setRow g (splice cur ((i+1)*2) S).toArray) gx 192 [a,b]):=iD (fun nq=>(hx.drewN nq).setRow_far hne _);have hlen1:Hid ((splice cur ((i+1)*2) S).length=cap*2):=iD (by
    simp only[splice,lB,lD,lE,hcl,hS];omega)
  replace hS:=iD hS;replace hsrc:=iD hsrc;replace hB:=iD hB;replace hcl:=iD hcl;clear hys hSS h1 ha hb hx hct hxl;have i1:(0:Int)<=(i:Int):=by omega
  go_enter func183,ntmps183;go_wp2_with fail;rw[kC func228 (by kernel_rfl) (by kernel_rfl) (by kernel_rfl) (e:=k2 #[51,51] #[4]) (by kernel_rfl)];rw[hov.out];simp only[lQ];rw[kD];go_wp2_with fail;refine Ye 8 (by kernel_rfl) (by kernel_rfl) ?_;simp only[nG,n4,nH,nA];repeat (first
    | (refine Yp (l3 51 (.tmp 69) (some (.tmp 72)) none none) rfl rfl (.slice (some ⟨g,(i+1)*2,none⟩) (n - i) (cap - (i+1))) (fun w _=>?_) ?_
       · exact (congrArg (fun r=>lQ r _) (hs3 w))
       go_frame)
    | (refine Yp (l3 51 (.tmp 74) (some (.tmp 75)) none none) rfl rfl (.slice (some ⟨g,i*2,none⟩) (n+1 - i) (cap - i)) (fun w _=>?_) ?_
       · exact (congrArg (fun r=>lQ r _) (hs4 w))
       go_frame)
    | go_big_quiet_step (fail))
  refine lY ?_;rintro _ ⟨nq,rfl⟩;refine Of rfl (.tmp 73) (.tmp 76) 51 51 rfl 192 2 underlying51 X7 g ((i+1)*2) (n - i) (cap - (i+1)) ⟨g,i*2,none⟩ (n+1 - i) (cap - i) rfl rfl cur 192 (hB.out.drewN nq) S (by rw[hS.out,show lT (n+1 - i) (n - i)=n - i from Nat.min_eq_right (by omega)]) hsrc.out (by rw[hS.out,hcl.out];omega) hone1.out ?_;have hB1':=hB1.out nq;have hX1':=hX1.out nq;have hgr:Hid (w.grownBy ((w.drewN nq).setRow g (splice cur ((i+1)*2) S).toArray) (some g)):=iD (setRow_grown' w nq g _);generalize (w.drewN nq).setRow g (splice cur ((i+1)*2) S).toArray=w2 at hB1' hX1' hgr ⊢;obtain⟨c1,hc1'⟩:∃ c1,c1=splice cur ((i+1)*2) S:=⟨_,rfl⟩;rw[<-hc1'] at hB1' hfin;have hl2:Hid (c1.length=cap*2):=iD (by rw[hc1'];exact hlen1.out);clear hB hsrc hov hS hs3 hc1' hB1 hX1 hlen1;go_wp2_with (refine Of rfl (.tmp 80) (.tmp 81) 51 51 rfl 192 2 underlying51 X7 g (i*2) (n+1 - i) (cap - i) ⟨gx,0,none⟩ 1 1 rfl rfl c1 192 hB1' [a,b] (by rw[show lT 1 (n+1 - i)=1 from k4 (by omega)];rfl) (U9 hX1' 0 [a,b] [] rfl) (by rw[hl2.out];simp;omega) hone2.out ?_);go_ret;refine⟨_,rfl,Z32 hbg (hB1'.setRow_same _) hc1 hc2 hfin.out.1 hfin.out.2,Z5b hgr.out (Z33 _),.inl rfl⟩
end Go.Proofs.YtfdimggmljkkbaaGreatDoor
end
section
namespace Go.Proofs.YtfdimggmljkkbaaGreatDoor
open Go.RowKit
theorem Zh7:∃ i,lA.info? 192=some i/\i.zero=some (.agg Xg.toArray)/\i.size=2/\i.bytes=40:=by
 have h:=Z58.info;cases hq:lA.info? 192 with
 | none=>simp[hq] at h
 | some i =>
  simp only[hq,kE,lW,kF] at h;exact⟨i,rfl,h.1,h.2.1,h.2.2⟩
theorem Zh8(w:World)(ty:TypeId)(g n i cap:Nat)(P:List Value)(hP:P.length=i*2)(hc:∀ j v,P[j]?=some v->w.cell? ((⟨g,0,none⟩:Addr).add j)=some v)(hi:i<n)(hcap:cap<n+1)(hn:n<=2199023255552) :
  ∃ nc Z W2,(k5 #[51,3] ty #[.slice (some ⟨g,0,none⟩) i cap,.int .i64 ((n+1 - i:Nat):Int)]).run lA w=.ok (.slice (some ⟨w.heap.size,0,none⟩) (n+1) nc) W2 /\
   Blk W2 w.heap.size 192 (P++Z)/\(P++Z).length=nc*2/\n+1<=nc/\nc<=maxLen/\Below w.heap.size w W2:=by
 obtain⟨inf,hi0,hz,hsz,hby⟩:=Zh7;have hold:(n2 inf.size i (.slice (some ⟨g,0,none⟩) i cap)).run lA w.drew=.ok P.toArray w.drew:=by
  have hl:=kX (P:=lA) w.drew ⟨g,0,none⟩ P hc;simp only[n2,hsz,<-hP];exact hl
 have hfit:Builtin.nextslicecap (i+(n+1 - i)) cap*inf.bytes<=281474976710656:=by rw[hby];exact growslice_fits (by omega) (by omega)
 have hr:=Lib.run_append_grow_zeros (P:=lA) w 51 3 ty 192 inf (.agg Xg.toArray) .i64 .i64 underlying51 underlying3 hi0 hz (some ⟨g,0,none⟩) i cap P hold (n+1 - i) (by omega) (by omega) (by omega) (by omega) (by rw[hby];omega) hfit;have en:i+(n+1 - i)=n+1:=by omega
 rw[en] at hr;have hge:=grownCap_ge w (n+1) cap 192;have hle:=grownCap_le_maxLen w (n+1) cap 192 (by unfold maxLen;omega);obtain⟨nc,hnc⟩:∃ nc,nc=grownCap w (n+1) cap 192:=⟨_,rfl⟩;rw[<-hnc] at hr hge hle;refine⟨nc,(nC (l0 Xg.toArray).cells (n+1 - i)).toList++(nC (l0 Xg.toArray).cells (nc - (n+1))).toList,_,hr,?_,?_,hge,hle,?_⟩
 ·have:=nX w.drew (.cells (P.toArray++nC (l0 Xg.toArray).cells (n+1 - i)++nC (l0 Xg.toArray).cells (nc - (n+1))) 192);unfold Blk;rw[show w.drew.heap.size=w.heap.size from rfl] at this;rw[this];simp
 ·have e2:(l0 Xg.toArray).cells.size=2:=rfl;simp only[lB,Array.length_toList,size_zeroCells,hP,e2];omega
 ·exact ((lG w.heap.size w).drew).alloc (lH _) _
theorem Zh9(base n i:Nat)(g cap:Nat)(cur xs:List Value)(gx:Nat)(a b:Value)(w:World)(hbase:base<=w.heap.size)(hB:Blk w g 192 cur)(hc0:n<=cap)(hc1:cap<n+1)(hcl:cur.length=cap*2)(hct:cur.take (n*2)=xs)(hn:n<=2199023255552)(hi:i<n)
    (h1:∀ u ∈ xs,u.oneCell'=true) (hx:Blk w gx 192 [a,b]) (ha:a.oneCell'=true) (hb:b.oneCell'=true) :
    Calls lA 183 #[.slice (some ⟨g,0,none⟩) n cap,.int .i64 i,.slice (some ⟨gx,0,none⟩) 1 1] w (Z1c w base (.slice (some ⟨g,0,none⟩) n cap) (n+1) (xs.take (i*2)++[a,b]++xs.drop (i*2))):=by
  have e1:((i+1:Nat):Int)=(i:Int)+1:=rfl;have hs1:=fun w=>K4 (P:=lA) w 51 192 2 underlying51 X7 (some ⟨g,0,none⟩) n cap i (by omega);have hs2:=fun w=>Z06 (P:=lA) w 51 192 2 underlying51 X7 (some ⟨g,0,none⟩) n cap i (by omega);have ec:∀ g k c,k<c->cutA (some ⟨g,0,none⟩) c k 2=some ⟨g,k*2,none⟩:=fun g k c hk=>by
    unfold cutA;rw[if_neg (by omega)];simp[Xj]
  rw[ec _ _ _ (by omega)] at hs1;have hxl:xs.length=n*2:=by rw[<-hct,lD,hcl];omega
  have hP:(xs.take (i*2)).length=i*2:=by rw[lD,hxl];omega
  have hS:(xs.drop (i*2)).length=(n - i)*2:=by rw[lE,hxl];omega
  obtain⟨ys,hys⟩:∃ ys,ys=xs.take (i*2)++[a,b]++xs.drop (i*2):=⟨_,rfl⟩;rw[<-hys];have hPc:∀ j v,(xs.take (i*2))[j]?=some v->w.cell? ((⟨g,0,none⟩:Addr).add j)=some v:=fun j v hv=>by
    have hj:=(lP.1 hv).1;rw[Xj,hB.cell,Nat.zero_add];rw[<-hct,nD] at hv;rw[nE (by omega)] at hv;exact hv
  have hSc:∀ j v,(xs.drop (i*2))[j]?=some v->w.cell? ((⟨g,i*2,none⟩:Addr).add j)=some v:=fun j v hv=>by
    have hj:=(lP.1 hv).1;rw[Xj,hB.cell];rw[n3,<-hct,nE (by omega)] at hv;exact hv
  have hone1:Hid (∀ u ∈ xs.drop (i*2),u.oneCell'=true):=iD (fun u hu=>h1 u (nF hu));have hone2:Hid (∀ u ∈ [a,b],u.oneCell'=true):=iD (by simp[ha,hb]);obtain⟨nc,Z,W2,hrun,hN,hNl,hn1,hn2,hbl⟩:∃ nc Z W2,(∀ ty,(k5 #[51,3] ty #[.slice (some ⟨g,0,none⟩) i cap,.int .i64 ((n+1 - i:Nat):Int)]).run lA w=.ok (.slice (some ⟨w.heap.size,0,none⟩) (n+1) nc) W2) /\
      Blk W2 w.heap.size 192 (xs.take (i*2)++Z)/\(xs.take (i*2)++Z).length=nc*2/\n+1<=nc/\nc<=maxLen/\Below w.heap.size w W2:=by
    obtain⟨nc,Z,W2,h⟩:=Zh8 w 0 g n i cap (xs.take (i*2)) hP hPc hi hc1 hn;exact⟨nc,Z,W2,fun ty=>h.1,h.2⟩
  obtain⟨gn,hgn⟩:∃ gn,gn=w.heap.size:=⟨_,rfl⟩;rw[<-hgn] at hrun hN;have hs3:=fun w=>K4 (P:=lA) w 51 192 2 underlying51 X7 (some ⟨gn,0,none⟩) (n+1) nc i (by omega);have hs4:=fun w=>K4 (P:=lA) w 51 192 2 underlying51 X7 (some ⟨gn,0,none⟩) (n+1) nc (i+1) (by omega);rw[ec _ _ _ (by omega)] at hs3 hs4;rw[e1,show n+1 - (i+1)=n - i by omega] at hs4;have hX2:=hx.below hbl hx.lt;have hgl:g<w.heap.size:=hB.lt;have hgxl:gx<w.heap.size:=hx.lt;obtain⟨PP,hPP⟩:∃ PP,PP=xs.take (i*2):=⟨_,rfl⟩;obtain⟨S,hSS⟩:∃ S,S=xs.drop (i*2):=⟨_,rfl⟩;rw[<-hSS] at hS hSc hone1 hys;rw[<-hPP] at hP hN hNl hys;have hc1e:splice (PP++Z) (i*2) [a,b]=(PP++[a,b])++Z.drop 2:=by
    rw[<-hP,Z34,<-lO];rfl
  have hPl:(PP++[a,b]).length=(i+1)*2:=by rw[lB,hP];simp;omega
  have hc2e:Hid ((splice (splice (PP++Z) (i*2) [a,b]) ((i+1)*2) S).length=nc*2/\(splice (splice (PP++Z) (i*2) [a,b]) ((i+1)*2) S).take ((n+1)*2)=ys):=iD (by
    rw[hc1e];have hZ:Z.length=nc*2 - i*2:=by rw[lB,hP] at hNl;omega
    have e:=Z34 (PP++[a,b]) (Z.drop 2) S;rw[hPl] at e;rw[e];refine⟨by simp only[lB,hPl,hS,lE,hZ];omega,?_⟩;rw[hys,<-lO,nP (by simp only[lB,hS,hP,lF,lX];omega)])
  have hSc2:Hid (∀ W,Below w.heap.size w W->∀ j v,S[j]?=some v->W.cell? ((⟨g,i*2,none⟩:Addr).add j)=some v):=iD (fun W hW j v hv=>by
    rw[hW.cell (p:=(⟨g,i*2,none⟩:Addr).add j) (by rw[Gs];exact hgl)];exact hSc j v hv)
  have hc1l:Hid ((splice (PP++Z) (i*2) [a,b]).length=nc*2):=iD (by
    have hZ:Z.length=nc*2 - i*2:=by rw[lB,hP] at hNl;omega
    rw[hc1e,lB,hPl,lE,hZ];omega)
  have d1:decide (1<=(cap:Int) - (n:Int))=false:=by simp;omega
  have hgt:decide ((cap:Int)<(n:Int)+1)=true:=decide_eq_true (by omega);have hne2:((i:Int) == (n:Int))=false:=by rw[beq_eq_false_iff_ne];omega
  have hsrcX:Hid (∀ j v,[a,b][j]?=some v->W2.cell? ((⟨gx,0,none⟩:Addr).add j)=some v):=iD (U9 hX2 0 [a,b] [] rfl);replace hN:=iD hN;replace hNl:=iD hNl;replace hrun:=iD hrun;replace hbl:=iD hbl;replace hS:=iD hS;replace hgn:=iD hgn;clear hys hSS hPP h1 ha hb hx hct hxl hSc hPc hc1e hPl hP hX2 hB hcl ec e1;have i1:(0:Int)<=(i:Int):=by omega
  go_enter func183,ntmps183;go_wp2_with (first
    | (at_builtin;refine Lib.wpList_append_run _ rfl (.tmp 34) (.tmp 39) _ _ rfl (.slice (some ⟨g,0,none⟩) i cap) (.int .i64 ((n+1 - i:Nat):Int)) rfl (congrArg (Value.int .i64) (by omega)) _ _ (hrun.out _) ?_;go_frame)
    | (refine Of rfl (.tmp 43) (.tmp 44) 51 51 rfl 192 2 underlying51 X7 gn (i*2) (n+1 - i) (nc - i) ⟨gx,0,none⟩ 1 1 rfl rfl (PP++Z) 192 hN.out [a,b] (by rw[show lT 1 (n+1 - i)=1 from k4 (by omega)];rfl) hsrcX.out (by rw[hNl.out];simp;omega) hone2.out ?_;go_frame))
  have hB3:Hid (∀ nq,Blk ((W2.setRow gn (splice (PP++Z) (i*2) [a,b]).toArray).drewN nq) gn 192 (splice (PP++Z) (i*2) [a,b])):=iD (fun nq=>(hN.out.setRow_same _).drewN nq);have hbl3:Hid (∀ nq,Below w.heap.size w ((W2.setRow gn (splice (PP++Z) (i*2) [a,b]).toArray).drewN nq)):=iD (fun nq=>below_drewN (below_setRow hbl.out (by rw[hgn.out];exact lH _) _) nq);refine Ye 8 (by kernel_rfl) (by kernel_rfl) ?_;simp only[nG,n4,nH,nA];repeat (first
    | (refine Yp (l3 51 (.tmp 46) (some (.tmp 49)) none none) rfl rfl (.slice (some ⟨gn,(i+1)*2,none⟩) (n - i) (nc - (i+1))) (fun w _=>?_) ?_
       · exact (congrArg (fun r=>lQ r _) (hs4 w))
       go_frame)
    | (refine Yp (l3 51 (.tmp 51) (some (.tmp 52)) none none) rfl rfl (.slice (some ⟨g,i*2,none⟩) (n - i) (cap - i)) (fun w _=>?_) ?_
       · exact (congrArg (fun r=>lQ r _) (hs1 w))
       go_frame)
    | go_big_quiet_step (fail))
  refine lY ?_;rintro _ ⟨nq,rfl⟩;have hB4:=hB3.out nq;have hbl4:=hbl3.out nq;generalize (W2.setRow gn (splice (PP++Z) (i*2) [a,b]).toArray).drewN nq=W4 at hB4 hbl4 ⊢;refine Of rfl (.tmp 50) (.tmp 53) 51 51 rfl 192 2 underlying51 X7 gn ((i+1)*2) (n - i) (nc - (i+1)) ⟨g,i*2,none⟩ (n - i) (cap - i) rfl rfl (splice (PP++Z) (i*2) [a,b]) 192 hB4 S (by rw[hS.out,show lT (n - i) (n - i)=n - i from k0 _]) (hSc2.out _ hbl4) (by rw[hS.out,hc1l.out];omega) hone1.out ?_;clear hB3 hbl3 hrun;go_wp2;go_ret;refine⟨.slice (some ⟨gn,0,none⟩) (n+1) nc,rfl,Z32 (by rw[hgn.out];exact hbase) (hB4.setRow_same _) hn1 hn2 hc2e.out.1 hc2e.out.2,?_,.inr (fun k hk=>?_)⟩
  · have hb5:=below_setRow hbl4 (by rw[hgn.out];exact lH _) (splice (splice (PP++Z) (i*2) [a,b]) ((i+1)*2) S).toArray (g:=gn)
    exact Z4d hb5
  · have : gn=k:=by simpa[lV] using hk
    rw[<-this,hgn.out];exact lH _
theorem Zha(base:Nat)(v:Value)(n i:Nat)(xs:List Value)(gx:Nat)(a b:Value)(w:World)(ho:w.ownsRow base 192 2 v n xs)(hn:n<=2199023255552)(hi:i<=n)
  (h1:∀ u ∈ xs,u.oneCell'=true) (hx:Blk w gx 192 [a,b]) (ha:a.oneCell'=true) (hb:b.oneCell'=true) (hbase:base<=w.heap.size) (hne:v.ownBlock ≠ some gx) :
  Calls lA 183 #[v,.int .i64 i,.slice (some ⟨gx,0,none⟩) 1 1] w (Z1c w base v (n+1) (xs.take (i*2)++[a,b]++xs.drop (i*2))):=by
 by_cases he:i=n
 ·subst he;have hxl:xs.length=i*2:=ho.1;rw[kL (by omega),List.drop_of_length_le (by omega),k6];exact Zh5 base v i xs gx a b w ho hn hx ha hb hbase
 ·obtain⟨g,cap,cur,rfl,hbg,hB,hc1,hc2,hcl,hct⟩:=Z9p ho (by omega);have hg:gx ≠ g:=fun e=>hne (by rw[e];rfl);by_cases hr:n+1<=cap
  ·exact Zh6 base n i g cap cur xs gx a b w hbg hB hr hc2 hcl hct hn (by omega) h1 hx ha hb hg
  ·exact Zh9 base n i g cap cur xs gx a b w hbase hB hc1 (by omega) hcl hct hn (by omega) h1 hx ha hb
end Go.Proofs.YtfdimggmljkkbaaGreatDoor
end
end
section
section
namespace Go.Proofs.YtfdimggmljkkbaaGreatDoor
open Go.RowKit
def Q8(c:Chg):Tab:=if c.new=[] then [] else [⟨c.name,c.new⟩]
def J6(T:Tab)(c:Chg):Tab:=T.take (Zm T c.name)++(Q8 c++(if X8 T c.name then T.drop (Zm T c.name+1) else T.drop (Zm T c.name)))
theorem Z5c{n:Str}{h:List Str}:∀ {r:Tab},(∀ b ∈ r,b.name ≠ n)->Qw n h true r=r
 | [],_=>rfl
 | b :: r,hb=>by
  unfold Qw;rw[if_neg (by simp),if_neg (hb b (by simp)),Z5c (r:=r) (fun x hx=>hb x (by simp[hx]))];rfl
theorem Zhb{n:Str}{h:List Str}:∀ {r:Tab},(∀ b ∈ r,Ze n b.name=true)->Qw n h false r=⟨n,h⟩ :: r
 | [],_=>rfl
 | b :: r,hb=>by
  have h1:=hb b (by simp);unfold Qw;rw[if_pos ⟨rfl,h1⟩,if_neg (fun e=>Z0z h1 e.symm),Z5c (r:=r) (fun x hx e=>Z0z (hb x (by simp[hx])) e.symm)];rfl
theorem Z5d{n:Str}{h:List Str}{r:Tab}(hb:∀ b ∈ r,Ze n b.name=true):Qw n h (decide (h=[])) r=(if h=[] then [] else [⟨n,h⟩])++r:=by
 by_cases hh:h=[]
 ·rw[decide_eq_true hh,if_pos hh,Z5c (fun x hx e=>Z0z (hb x hx) e.symm)];rfl
 ·rw[decide_eq_false hh,if_neg hh,Zhb hb];rfl
theorem Z9q{n:Str}{h:List Str}:∀ {T:Tab},sorted T->Qw n h (decide (h=[])) T=T.take (Zm T n)++((if h=[] then [] else [⟨n,h⟩])++(if X8 T n then T.drop (Zm T n+1) else T.drop (Zm T n)))
 | [],_=>by
  have:=Z5d (n:=n) (h:=h) (r:=[]) (by simp);rw[this];simp[Zm,X8]
 | b :: r,hs=>by
  obtain⟨h1,h2⟩:=List.pairwise_cons.1 hs;by_cases hb:Ze b.name n=true
  ·have e:Zm (b :: r) n=Zm r n+1:=by unfold Zm;rw[lS,if_pos hb,lF]
   have eh:X8 (b :: r) n=X8 r n:=by unfold X8;rw[e,List.getElem?_cons_succ]
   have hnb:Ze n b.name=false:=Z4s _ _ hb;have ih:=Z9q (n:=n) (h:=h) h2;rw[e,eh];unfold Qw;rw[if_neg (by simp[hnb]),if_neg (Z0z hb),ih];simp only[nG,nH,kJ,kK]
  ·have hb':Ze b.name n=false:=by simpa using hb
   have e:Zm (b :: r) n=0:=by unfold Zm;rw[lS,if_neg hb];rfl
   by_cases he:b.name=n
   ·have eh:X8 (b :: r) n=true:=by unfold X8;rw[e];simp[he]
    rw[e,eh];unfold Qw;rw[if_neg (by rw[he,Z2m];simp),if_pos he,Z5d (fun x hx=>by rw[<-he];exact h1 x hx)];simp
   ·have hn:Ze n b.name=true:=by
     cases hc:Ze n b.name with
     | true=>rfl
     | false=>exact absurd (O6 _ _ hb' hc) he
    have eh:X8 (b :: r) n=false:=by unfold X8;rw[e];simp[he]
    rw[e,eh];have:=Z5d (n:=n) (h:=h) (r:=b :: r) (fun x hx=>by
     rcases k7.1 hx with rfl | hx
     ·exact hn
     ·exact Qv _ _ _ hn (h1 x hx))
    rw[this];simp
theorem Z9r{T:Tab}(hs:sorted T)(c:Chg):J6 T c=putT T c.name c.new:=(Z9q hs).symm
theorem Zhc{T:Tab}(hs:sorted T)(n:Str):(∀ b ∈ T.take (Zm T n),Ze b.name n=true)/\(∀ b ∈ (if X8 T n then T.drop (Zm T n+1) else T.drop (Zm T n)),Ze n b.name=true):=by
 refine⟨fun b hb=>?_,fun b hb=>?_⟩
 ·obtain⟨x,hx,rfl⟩:=lN.1 hb;rw[lD] at hx;rw[n5];exact Z9k x (by omega) (by omega)
 ·have hrest:∀ x (hx:x<T.length),Zm T n<x->Ze n T[x].name=true:=fun x hx hlt=>by
   have hp:Zm T n<T.length:=by omega
   have g1:=Z56 hp;have g2:=Z2x hs hlt hx;cases hc:Ze n T[Zm T n].name with
   | true=>exact Qv _ _ _ hc g2
   | false=>rw[<-O6 _ _ g1 hc];exact g2
  by_cases hh:X8 T n=true
  ·rw[if_pos hh] at hb;obtain⟨x,hx,rfl⟩:=lN.1 hb;rw[lE] at hx;rw[nQ];exact hrest _ (by omega) (by omega)
  ·rw[if_neg hh] at hb;obtain⟨x,hx,rfl⟩:=lN.1 hb;rw[lE] at hx;rw[nQ];rcases kH x with hx0 | hx0
   ·subst hx0;have hp:Zm T n<T.length:=by omega
    have g1:=Z56 hp;have hne:T[Zm T n].name ≠ n:=fun e=>hh (by unfold X8;rw[lZ hp];simp[e]);simp only[n1];cases hc:Ze n T[Zm T n].name with
    | true=>rfl
    | false=>exact absurd (O6 _ _ g1 hc) hne
   ·exact hrest _ (by omega) (by omega)
theorem Z5e{T:Tab}(hs:sorted T)(c:Chg):sorted (J6 T c):=by
 obtain⟨h1,h2⟩:=Zhc hs c.name;have hd:(if X8 T c.name then T.drop (Zm T c.name+1) else T.drop (Zm T c.name)).Sublist T:=by
  split
  ·exact List.drop_sublist _ _
  ·exact List.drop_sublist _ _
 unfold J6 sorted;rw[List.pairwise_append];refine⟨hs.sublist (List.take_sublist _ _),?_,?_⟩
 ·rw[List.pairwise_append];refine⟨?_,hs.sublist hd,?_⟩
  ·unfold Q8;split <;> simp
  ·intro a ha b hb;unfold Q8 at ha;split at ha
   ·cases ha
   ·rw[n6.1 ha];exact h2 b hb
 ·intro a ha b hb;rcases l4.1 hb with hb | hb
  ·unfold Q8 at hb;split at hb
   ·cases hb
   ·rw[n6.1 hb];exact h1 a ha
  ·exact Qv _ _ _ (h1 a ha) (h2 b hb)
theorem Zhd(T:Tab)(c:Chg):(J6 T c).length<=T.length+1:=by
 have hm:(Q8 c).length<=1:=by unfold Q8;split <;> simp
 have hp:=Z2y T c.name;unfold J6;rw[lB,lB,lD];split
 ·rw[lE];omega
 ·rw[lE];omega
theorem Z5f{T:Tab}{c:Chg}{b:Br}(h:b ∈ J6 T c):b ∈ T ∨ (b=⟨c.name,c.new⟩/\c.new ≠ []):=by
 unfold J6 at h;rcases l4.1 h with h | h
 ·exact .inl (nK h)
 ·rcases l4.1 h with h | h
  ·unfold Q8 at h;split at h
   ·cases h
   ·rename_i hn;exact .inr ⟨n6.1 h,hn⟩
  ·split at h
   ·exact .inl (nF h)
   ·exact .inl (nF h)
structure Way (T:Tab) (k:Nat):Prop where
 sorted:sorted T
 len:T.length<=32+k
 fit:∀ b ∈ T,BFit b
theorem Way.step{T:Tab}{k:Nat}(h:Way T k){c:Chg}(hc:CFit1 c):Way (J6 T c) (k+1) :=
 ⟨Z5e h.sorted c,by have:=Zhd T c;have:=h.len;omega,fun b hb=>by
  rcases Z5f hb with hb | ⟨rfl,_⟩
  ·exact h.fit b hb
  ·exact⟨hc.name,hc.new⟩⟩
theorem Z5g:∀ (C:List Chg) (T:Tab),sorted T->C.foldl J6 T=Vu T C
 | [],_,_=>rfl
 | c :: C,T,hs=>by
  unfold Vu;rw[List.foldl_cons,List.foldl_cons,Z9r hs];have:=Z5g C (putT T c.name c.new) (by rw[<-Z9r hs];exact Z5e hs c);exact this
theorem Z1d:∀ (T:Tab) (vs:List Value) (i:Nat),vs.length=T.length->(Y4 T vs).take (i*2)=Y4 (T.take i) (vs.take i)/\(Y4 T vs).drop (i*2)=Y4 (T.drop i) (vs.drop i)
 | T,vs,0,_=>by simp[Y4]
 | [],[],i+1,_=>by simp[Y4]
 | [],_ :: _,_,h=>by simp at h
 | _ :: _,[],_,h=>by simp at h
 | b :: T,v :: vs,i+1,h=>by
  obtain⟨h1,h2⟩:=Z1d T vs i (by simpa using h);rw[show (i+1)*2=i*2+1+1 by omega];simp only[Y4,nG,nH,h1,h2,and_self]
theorem Z5h{w:World}{base:Nat}:∀ (T:Tab) (vs:List Value),vs.length=T.length->(∀ (k:Nat) b u,T[k]?=some b->vs[k]?=some u->Z7 w (Yc w base) u b.heads)->∀ u ∈ Y4 T vs,u.oneCell'=true
 | [],_,_,_=>by simp[Y4]
 | _ :: _,[],h,_=>by simp at h
 | b :: T,v :: vs,h,hh=>by
  intro u hu;simp only[Y4,k7] at hu;rcases hu with rfl | rfl | hu
  ·rfl
  ·obtain⟨A,c,e,_⟩:=hh 0 b _ rfl rfl;rw[e];rfl
  ·exact Z5h T vs (by simpa using h) (fun k b u h1 h2=>hh (k+1) b u (by simpa using h1) (by simpa using h2)) u hu
end Go.Proofs.YtfdimggmljkkbaaGreatDoor
end
section
namespace Go.Proofs.YtfdimggmljkkbaaGreatDoor
open Go.RowKit
theorem Z1e{α β:Type}{P:α->β->Prop}:∀ (T:List α) (vs:List β),(∀ (k:Nat) b u,T[k]?=some b->vs[k]?=some u->P b u) ↔ ∀ p ∈ T.zip vs,P p.1 p.2:=fun T vs=>by
 constructor
 ·intro h p hp;obtain⟨k,hk,rfl⟩:=lN.1 hp;rw[l5] at hk;rw[l6];exact h k _ _ (lZ (by omega)) (lZ (by omega))
 ·intro h k b u h1 h2;obtain⟨l1,e1⟩:=lP.1 h1;obtain⟨l2,e2⟩:=lP.1 h2;have : (b,u) ∈ T.zip vs:=lN.2 ⟨k,by rw[l5];omega,by rw[l6,e1,e2]⟩;exact h _ this
theorem Z9s{α β:Type}{T:List α}{vs:List β}{i:Nat}{p:α × β}(h:p ∈ (T.take i).zip (vs.take i)):p ∈ T.zip vs:=by
 obtain⟨k,hk,rfl⟩:=lN.1 h;rw[l5,lD,lD] at hk;rw[l6,n5,n5];exact lN.2 ⟨k,by rw[l5];omega,by rw[l6]⟩
theorem Z9t{α β:Type}{T:List α}{vs:List β}{i:Nat}{p:α × β}(h:p ∈ (T.drop i).zip (vs.drop i)):p ∈ T.zip vs:=by
 obtain⟨k,hk,rfl⟩:=lN.1 h;rw[l5,lE,lE] at hk;rw[l6,nQ,nQ];exact lN.2 ⟨i+k,by rw[l5];omega,by rw[l6]⟩
theorem Zz.parts{w':World}{base:Nat}{v':Value}{T M:Tab}{vs ms:List Value}{i j:Nat}(hl:vs.length=T.length)(hml:ms.length=M.length)(hi:i<=T.length)
  (hh:∀ (k:Nat) b u,T[k]?=some b->vs[k]?=some u->Z7 w' (Yc w' base) u b.heads) (hm:∀ (k:Nat) b u,M[k]?=some b->ms[k]?=some u->Z7 w' (Yc w' base) u b.heads)
  {n:Nat} (hn:n=i+M.length+(T.length - j)) (hrow:w'.ownsRow base 192 2 v' n ((Y4 T vs).take (i*2)++Y4 M ms++(Y4 T vs).drop (j*2))):Zz w' base v' (T.take i++M++T.drop j):=by
 have l1:(vs.take i).length=(T.take i).length:=by rw[lD,lD,hl]
 have l2:(vs.drop j).length=(T.drop j).length:=by rw[lE,lE,hl]
 refine⟨vs.take i++ms++vs.drop j,by simp only[lB,l1,l2,hml],?_,?_⟩
 ·have e:Y4 (T.take i++M++T.drop j) (vs.take i++ms++vs.drop j)=(Y4 T vs).take (i*2)++Y4 M ms++(Y4 T vs).drop (j*2):=by
   rw[Z10 _ _ (by simp only[lB,l1,hml]),Z10 _ _ l1,(Z1d T vs i hl).1,(Z1d T vs j hl).2]
  rw[e];have en:(T.take i++M++T.drop j).length=n:=by
   simp only[lB,lD,lE,hn];omega
  rw[en];exact hrow
 ·have h1:=(Z1e T vs).1 hh;have h2:=(Z1e M ms).1 hm;refine (Z1e _ _).2 (fun p hp=>?_);rw[n7 (by simp only[lB,l1,hml]),n7 l1.symm] at hp;rcases l4.1 hp with hp | hp
  ·rcases l4.1 hp with hp | hp
   ·exact h1 p (Z9s hp)
   ·exact h2 p hp
  ·exact h1 p (Z9t hp)
theorem Yz.take{w:World}{ok:Nat->Prop}{A:Option Addr}{n c:Nat}{C:List Chg}(h:Yz w ok (.slice A n c) C)(k:Nat)(hk:k<=C.length):Yz w ok (.slice A k c) (C.take k):=by
 obtain⟨A',c',vs,hl,e,hc,hr,hh⟩:=h
 injection e with e1 e2 e3
 subst e1;subst e3;have lk:(C.take k).length=k:=by rw[lD];omega
 have lv:(vs.take k).length=k:=by rw[lD,hl];omega
 refine⟨A,c,vs.take k,by rw[lk,lv],by rw[lk],by rw[lk];omega,?_,fun i b u h1 h2=>?_⟩
 ·have e:K9 (C.take k) (vs.take k)=(K9 C vs).take (k*3):=by
   have ha:=Z8s (C.take k) (vs.take k) (by rw[lk,lv]) (C.drop k) (vs.drop k);rw[nB,nB] at ha;have hll:=Z4w (C.take k) (vs.take k) (by rw[lk,lv]);rw[lk] at hll;rw[ha,nP hll]
  rw[e];exact hr.take _
 ·have hi:i<k:=by
   have:=(lP.1 h1).1;omega
  rw[nE hi] at h1 h2;exact hh i b u h1 h2
theorem Zhe(T:Tab)(C:List Chg)(k:Nat)(hk:k<C.length):Jx T (C.take k) (C.drop k)=if Vt T (C.take k) C[k]=0 then Jx T (C.take (k+1)) (C.drop (k+1)) else Vt T (C.take k) C[k]:=by
 rw[kG hk]
 conv=>lhs;unfold Jx
 rw[Oe hk]
def Og:List Value:=[.string ⟨#[]⟩,.slice none 0 0,.slice none 0 0]
def Z1f(w:World)(T:Tab)(C:List Chg)(e:Ending)(w':World):Prop:=∃ v,e=.returned (.tuple #[v,.int .i64 (Yy T C)])/\Zz w' w.heap.size v (Zu T C)/\Below w.heap.size w w'
theorem Z35{w w':World}{T:Tab}{C:List Chg}{x:Int}(he:Yy T C=x)(hx:x ≠ 0)(hb:Below w.heap.size w w'){e:Ending}(h:e=.returned (.tuple #[.slice none 0 0,.int .i64 x])):Z1f w T C e w':=by
 refine⟨.slice none 0 0,by rw[h,he],?_,hb⟩;unfold Zu;rw[if_neg (by rw[he];exact hx)];exact Zz.nil
end Go.Proofs.YtfdimggmljkkbaaGreatDoor
end
section
namespace Go.Proofs.YtfdimggmljkkbaaGreatDoor
open Go.RowKit
theorem Z5i(T:Tab)(C:List Chg)(v u:Value)(ok ok':Nat->Prop)(w:World)(h:TabIs w ok v T)(hf:TFit T)(h':Yz w ok' u C)(hc:CFit C) :
    Calls lA 110 #[v,u] w (Z1f w T C):=by
  obtain⟨A,tc,rfl,htc⟩:=h.form;obtain⟨CA,cc,rfl,hcc⟩:=h'.form;have hmay:=iD (Z9g T _ ok w h hf);have hlT:=hf.len;have hlC:=hc.len;have hAE:Yy T C=if Yu T=0 then (if 32<C.length then 4 else if Jx T [] C=0 then (if 32<(Vu T C).length then 4 else 0) else Jx T [] C) else Yu T:=rfl;by_cases hm:Yu T=0
  · rw[if_pos hm] at hAE
    obtain⟨ml,mb,ms⟩:=(O7 T).1 hm;rw[hm] at hmay;clear hm;by_cases h32:32<C.length
    · rw[if_pos h32] at hAE
      replace hAE:=iD hAE;clear h h' hf hc;go_enter func110,ntmps110;go_wp2_with fail;refine hmay.out.mono ?_;rintro e w1 ⟨rfl,hb1⟩;replace hb1:=iD hb1;go_wp2;go_ret2;exact Z35 hAE.out (by decide) hb1.out rfl
    · rw[if_neg h32] at hAE
      have hC32:C.length<=32:=by omega
      have hT:=iD h.ltB;have hCh:=iD h'.ltB;replace hf:=iD hf;replace hc:=iD hc;replace ms:=iD ms;replace mb:=iD mb;replace hAE:=iD hAE;clear h h' h32;go_enter func110,ntmps110;go_wp2_with fail;refine hmay.out.mono ?_;rintro e w1 ⟨rfl,hb1⟩;clear hmay;go_wp2_with fail;go_loopw [25] (fun i wr=>∃ k:Nat,k<=C.length/\i=.int .i64 k/\Hid (Jx T [] C=Jx T (C.take k) (C.drop k))/\Below w.heap.size w wr) (fun i _=>C.length - (intOf i).toNat)
      case atStart=>exact⟨0,lI _,rfl,iD rfl,hb1⟩
      case round =>
        clear hb1;obtain⟨k,hk,rfl,hw,hb⟩:=hrel;by_cases hlt:k<C.length
        · have hT1:=hT.out.low hb
          have hC1:=hCh.out.low hb;obtain⟨b,o,x,y,rfl,hbl,_,hX,hY,hcells⟩:=hC1.ch k hlt;have hat:=Zhe T C k hlt;rw[<-hw.out] at hat;have hc1:=hc.out.ok C[k] (lL hlt);have hCt:=hC1.take k (by omega);obtain⟨c,hcc2⟩:∃ c,c=C[k]:=⟨_,rfl⟩;rw[<-hcc2] at hX hY hcells hat hc1;have hbox:=(Blk.new_at (w:=wr) (g:=wr.heap.size) (t:=107) (cs:=Og) rfl).setRow_same [Z0 c.name,x,y];have hbx1:Below wr.heap.size wr ((wr.alloc (.cells Og.toArray 107)).setRow wr.heap.size [Z0 c.name,x,y].toArray):=below_setRow bL (lH _) _;obtain⟨W1,hW1⟩:∃ W1,W1=(wr.alloc (.cells Og.toArray 107)).setRow wr.heap.size [Z0 c.name,x,y].toArray:=⟨_,rfl⟩;rw[<-hW1] at hbox hbx1;replace hW1:=iD hW1;have hbW:=hb.trans (hbx1.mono hb.size);have hcall:=iD (fun s:X1 W1=>Zgx T (C.take k) c (.slice A T.length tc) (.slice (some ⟨b,o,none⟩) k cc) x y _ _ _ s.1 ((hT1.stayB hbx1).stayB s.2) hf.out ms.out ((hCt.stayB hbx1).stayB s.2) (by rw[lD];omega) ((hX.stayB hbx1).stayB s.2) ((hY.stayB hbx1).stayB s.2) hc1);obtain⟨XA,xc,rfl,_,_⟩:=id hX;obtain⟨YA,yc,rfl,_,_⟩:=id hY;have hone:Hid (∀ v ∈ [Z0 c.name,lC XA c.old.length xc,lC YA c.new.length yc],v.oneCell'=true):=iD (by simp[Z0,lR]);replace hcells:=iD hcells;have hbox':=iD (fun s:X1 W1=>Z4j hbox s);obtain⟨z,hz⟩:∃ z,z=Vt T (C.take k) c:=⟨_,rfl⟩;rw[<-hz] at hcall hat;replace hat:=iD hat;have i1:(0:Int)<=(k:Int):=by omega
          have i2:(k:Int)<(C.length:Int):=by omega
          have hs2:=fun w=>Z06 (P:=lA) w 108 107 3 underlying108 G8 (some ⟨b,o,none⟩) C.length cc k (by omega);clear hT1 hC1 hX hY hCt hw hz hcc2 hc1 hb;replace hs2:=iD hs2;go_wp2_with (first
            | (refine Vv 107 (.tmp 28) rfl rfl b (o+k*3) rfl [Z0 c.name,.slice XA c.old.length xc,.slice YA c.new.length yc] hcells.out _ underlying107 rfl G8 ?_;go_frame)
            | (refine Zo rfl 107 (.tmp 8) (.tmp 29) rfl wr.heap.size [Z0 c.name,.slice XA c.old.length xc,.slice YA c.new.length yc] rfl rfl 107 Og (Blk.new_at rfl) rfl G8 hone.out ?_;rw[show (wr.alloc (lJ #[lM ⟨#[]⟩,lC none 0 0,lC none 0 0] 107)).setRow wr.heap.size [Z0 c.name,.slice XA c.old.length xc,.slice YA c.new.length yc].toArray=W1 from hW1.out.symm];go_frame))
          haveI:=Qt W1;refine Kj (by kernel_rfl) (by kernel_rfl) ?_;repeat (first
            | (refine Yp (l3 108 (.tmp 31) none (some (.tmp 32)) none) rfl rfl (.slice (some ⟨b,o,none⟩) k cc) (fun w _=>?_) ?_
               · exact (congrArg (fun r=>lQ r _) (hs2.out w))
               go_frame)
            | (refine Yf 107 (.tmp 8) rfl rfl wr.heap.size 0 rfl 107 [Z0 c.name,.slice XA c.old.length xc,.slice YA c.new.length yc] [Z0 c.name,.slice XA c.old.length xc,.slice YA c.new.length yc] [] (fun w hw=>?_) rfl _ underlying107 rfl G8 ?_
               · obtain⟨s,rfl⟩:=hw
                 exact hbox'.out s
               go_frame)
            | go_big_quiet_step ((go_at_call 181;exact Vq _ (hcall.out _))))
          refine lY ?_;rintro _ ⟨s,rfl⟩;have hb4:=hbW.trans (s.2.mono hbW.size);obtain⟨w4,hw4⟩:=s;dsimp only at hb4 ⊢;clear this hw4 hcall hbox' hs2 hbox hbx1 hbW hW1;by_cases hz0:z=0
          · subst hz0
            have hnext:Hid (Jx T [] C=Jx T (C.take (k+1)) (C.drop (k+1))):=iD (hat.out.trans (if_pos rfl));clear hat;go_wp2;go_roundw
            case rel=>exact⟨k+1,by omega,by go_num,hnext,hb4⟩
            case measure=>simp[intOf];omega
          · have g1:(z != 0)=true:=by simpa using hz0
            have hwz:Jx T [] C=z:=by rw[hat.out,if_neg hz0]
            have hfin:Hid (Yy T C=z):=iD (by rw[hAE.out,hwz,if_neg hz0]);replace hz0:=iD hz0;clear hat hwz;go_wp2;go_ret2;exact Z35 hfin.out hz0.out hb4 rfl
        · obtain rfl:k=C.length:=by omega
          have hw0:Jx T [] C=0:=by rw[hw.out,List.drop_length];rfl
          have hAE2:Hid (Yy T C=if 32<(Vu T C).length then 4 else 0):=iD (by rw[hAE.out,if_pos hw0]);have how:=iD (Z9n T _ _ wr (hT.out.low hb) hf.out);clear hw hw0 hAE;go_wp2_with fail;refine how.out.mono ?_;rintro e w2 ⟨ov,rfl,hO,hb2⟩;have hsz:=hb.size;replace hO:=iD (hO.lower hsz);have hb3:=hb.trans (hb2.mono hsz);obtain⟨OA,oc,rfl,_⟩:=hO.out.form;have hway:Hid (Way T 0):=iD ⟨ms.out,ml,hf.out.ok⟩;clear hb hb2 how;go_wp2_with fail;go_loopw [44,10] (fun i o wr=>∃ k:Nat,k<=C.length/\i=.int .i64 k/\Zz wr w.heap.size o ((C.take k).foldl J6 T)/\Hid (Way ((C.take k).foldl J6 T) k)/\Below w.heap.size w wr) (fun i _ _=>C.length - (intOf i).toNat)
          case atStart=>exact⟨0,lI _,rfl,hO.out,hway,hb3⟩
          case round =>
            clear hO hb3 hway hsz;obtain⟨k,hk,rfl,hO,hway,hb⟩:=hrel;by_cases hlt:k<C.length
            · have hC1:=hCh.out.low hb
              obtain⟨b,o,x,y,rfl,hbl,_,hX,hY,hcells⟩:=hC1.ch k hlt;have hc1:=hc.out.ok C[k] (lL hlt);have hfk:Hid ((C.take (k+1)).foldl J6 T=J6 ((C.take k).foldl J6 T) C[k]):=iD (by rw[Oe hlt,List.foldl_append];rfl);obtain⟨c,hcc2⟩:∃ c,c=C[k]:=⟨_,rfl⟩;rw[<-hcc2] at hX hY hcells hc1 hfk;obtain⟨T0,hT0⟩:∃ T0,T0=(C.take k).foldl J6 T:=⟨_,rfl⟩;rw[<-hT0] at hO hway hfk;clear hcc2 hT0;have hwn:Hid (Way (J6 T0 c) (k+1)):=iD (hway.out.step hc1);have hl0:T0.length<=64:=by have:=hway.out.len;omega
              have hs0:=iD hway.out.sorted;have hbox:=(Blk.new_at (w:=wr) (g:=wr.heap.size) (t:=107) (cs:=Og) rfl).setRow_same [Z0 c.name,x,y];have hbx1:Below wr.heap.size wr ((wr.alloc (.cells Og.toArray 107)).setRow wr.heap.size [Z0 c.name,x,y].toArray):=below_setRow bL (lH _) _;obtain⟨W1,hW1⟩:∃ W1,W1=(wr.alloc (.cells Og.toArray 107)).setRow wr.heap.size [Z0 c.name,x,y].toArray:=⟨_,rfl⟩;rw[<-hW1] at hbox hbx1;replace hW1:=iD hW1;have hbW:=hb.trans (hbx1.mono hb.size);obtain⟨XA,xc,rfl,_,_⟩:=id hX;obtain⟨YA,yc,rfl,_,_⟩:=id hY;have hone:Hid (∀ v ∈ [Z0 c.name,lC XA c.old.length xc,lC YA c.new.length yc],v.oneCell'=true):=iD (by simp[Z0,lR]);replace hcells:=iD hcells;have hO1:=hO.keepB hbx1;obtain⟨vs,hvl,hrow,hheads⟩:=hO1;obtain⟨FA,fc,rfl,_,_⟩:=Z6 hrow;have hneb:∀ g,(lC FA T0.length fc).ownBlock=some g->g<wr.heap.size:=by
                obtain⟨_,_,ho,_⟩:=hO;exact fun g hg=>(ho.lt g hg).2
              have hat:=iD (Z9l T0 _ c.name _ W1 (Zz.tab ⟨vs,hvl,hrow,hheads⟩) (by omega) hs0.out);have hple:=Z2y T0 c.name;have hY1:=(hY.stayB hbx1);have d0:W1.cell? ⟨wr.heap.size,0,none⟩=some (.string ⟨c.name.toArray⟩):=by rw[hbox.cell];rfl
              have hgl:wr.heap.size<W1.heap.size:=hbox.lt;have i1:(0:Int)<=(k:Int):=by omega
              have i2:(k:Int)<(C.length:Int):=by omega
              replace hrow:=iD hrow;replace hheads:=iD hheads;replace hvl:=iD hvl;replace hneb:=iD hneb;replace hY1:=iD hY1;replace hbox:=iD hbox;replace hbW:=iD hbW;clear hO hC1 hX hY hb hbx1;unfold Z0 at hat;go_wp2_with (first
                | (refine Vv 107 (.tmp 46) rfl rfl b (o+k*3) rfl [Z0 c.name,.slice XA c.old.length xc,.slice YA c.new.length yc] hcells.out _ underlying107 rfl G8 ?_;go_frame)
                | (refine Zo rfl 107 (.tmp 12) (.tmp 47) rfl wr.heap.size [Z0 c.name,.slice XA c.old.length xc,.slice YA c.new.length yc] rfl rfl 107 Og (Blk.new_at rfl) rfl G8 hone.out ?_;rw[show (wr.alloc (lJ #[lM ⟨#[]⟩,lC none 0 0,lC none 0 0] 107)).setRow wr.heap.size [Z0 c.name,.slice XA c.old.length xc,.slice YA c.new.length yc].toArray=W1 from hW1.out.symm];go_frame))
              refine hat.out.mono ?_;rintro e w4 ⟨rfl,hb4⟩;have hrow4:=Zk (L:=[]) hrow.out (Touch.ofBelow hb4) (by simp);have hh4:=iD (fun k b u h1 h2=>(hheads.out k b u h1 h2).keepB hb4);have hbox4:=hbox.out.below hb4 hgl;have hY4:=iD (hY1.out.stayB hb4);have hbW4:=iD (hbW.out.trans (hb4.mono hbW.out.size));have hg4:wr.heap.size<w4.heap.size:=hbox4.lt;clear hb4 hat hrow hheads hbox hY1 hbW hW1 d0 hgl;have hst:J6 T0 c=T0.take (Zm T0 c.name)++(Q8 c++(if X8 T0 c.name then T0.drop (Zm T0 c.name+1) else T0.drop (Zm T0 c.name))):=rfl;have hhp:X8 T0 c.name=true->Zm T0 c.name<T0.length:=fun e=>by
                rcases nV (Zm T0 c.name) T0.length with h | h
                · exact h
                · unfold X8 at e;rw[nY h] at e;cases e
              obtain⟨hit,hhit⟩:∃ hit,hit=X8 T0 c.name:=⟨_,rfl⟩;obtain⟨p,hp⟩:∃ p,p=Zm T0 c.name:=⟨_,rfl⟩;rw[<-hhit,<-hp] at hst hhp;rw[<-hhit,<-hp];rw[<-hp] at hple;replace hst:=iD hst;clear hhit hp;have i3:(0:Int)<=(p:Int):=by omega
              have i4:(p:Int)<=(T0.length:Int):=by omega
              have hone0:=iD (Z5h T0 vs hvl.out hh4.out);have hdel:∃ T1 vs1,Hid (hit=true->p<T0.length)/\vs1.length=T1.length/\T1.length<=64/\p<=T1.length/\J6 T0 c=T1.take p++Q8 c++T1.drop p/\(hit=false->T1=T0/\vs1=vs)/\(hit=true->T1.length=T0.length - 1/\Y4 T1 vs1=(Y4 T0 vs).take (p*2)++(Y4 T0 vs).drop ((p+1)*2))/\(∀ w5,(∀ (k:Nat) b u,T0[k]?=some b->vs[k]?=some u->Z7 w5 (Yc w5 w.heap.size) u b.heads)->∀ (k:Nat) b u,T1[k]?=some b->vs1[k]?=some u->Z7 w5 (Yc w5 w.heap.size) u b.heads):=by
                cases hit with
                | false=>exact⟨T0,vs,iD (fun e=>by cases e),hvl.out,hl0,hple,by rw[hst.out,lO];rfl,fun _=>⟨rfl,rfl⟩,(fun e=>by cases e),fun _ h=>h⟩
                | true =>
                  have hpl:=hhp rfl;have l1:(vs.take p).length=(T0.take p).length:=by rw[lD,lD,hvl.out]
                  have l2:(vs.drop (p+1)).length=(T0.drop (p+1)).length:=by rw[lE,lE,hvl.out]
                  have tl:(T0.take p).length=p:=by rw[lD];omega
                  refine⟨T0.take p++T0.drop (p+1),vs.take p++vs.drop (p+1),iD (fun _=>hpl),by simp only[lB,l1,l2],by simp only[lB,lD,lE];omega,by simp only[lB,tl];omega,?_,(fun e=>by cases e),fun _=>⟨by simp only[lB,lD,lE];omega,?_⟩,fun w5 h5=>?_⟩
                  · rw[hst.out,nP tl,List.drop_left' tl,lO];rfl
                  · rw[Z10 _ _ l1,(Z1d T0 vs p hvl.out).1,(Z1d T0 vs (p+1) hvl.out).2]
                  · have h1:=(Z1e T0 vs).1 h5
                    refine (Z1e _ _).2 (fun q hq=>?_);rw[n7 l1.symm] at hq;rcases l4.1 hq with hq | hq
                    · exact h1 q (Z9s hq)
                    · exact h1 q (Z9t hq)
              obtain⟨T1,vs1,hpT0,hv1l,hl1,hple1,hst1,hno,hyes,hheads1⟩:=hdel;replace hst1:=iD hst1;replace hno:=iD hno;replace hyes:=iD hyes;replace hheads1:=iD hheads1;replace hv1l:=iD hv1l;clear hst hhp;have hbx4:=iD hbox4;have hdl:=iD (fun (e:hit=true)=>Zh3 w.heap.size _ T0.length p (Y4 T0 vs) w4 hrow4 (hpT0.out e) (by omega) hone0.out);by_cases hnw:c.new.length=0
              · have hmid:Hid (Q8 c=[]):=iD (by unfold Q8;rw[if_pos (nJ hnw)])
                have d1:decide (0<(c.new.length:Int))=false:=decide_eq_false (by omega);cases hit
                focus
                  obtain⟨hTe,hve⟩:=hno.out (by first | trivial | rfl);subst hTe;subst hve;have hrow5:=iD hrow4;have hh5:=hh4;have hbox5:=hbx4.out;have hY5:=hY4;have hb5:=hbW4;have hne5:Hid (∀ g,(lC FA T1.length fc).ownBlock=some g->g ≠ wr.heap.size):=iD (fun g hg=>by have:=hneb.out g hg;omega);obtain⟨w5,hw5⟩:∃ w5,w5=w4:=⟨_,rfl⟩;subst hw5;obtain⟨VA,hVA⟩:∃ VA,VA=FA:=⟨_,rfl⟩;subst hVA;obtain⟨vc,hvc⟩:∃ vc,vc=fc:=⟨_,rfl⟩;subst hvc;clear hyes hpT0 hdl
                rotate_left
                focus
                  go_wp2_with fail;refine (hdl.out (by first | trivial | rfl)).mono ?_;rintro e w5 ⟨V,rfl,hrow5,hg5,hown5⟩;obtain⟨hle,hce⟩:=hyes.out (by first | trivial | rfl);rw[<-hle,<-hce] at hrow5;obtain⟨VA,vc,rfl,_,_⟩:=Z6 hrow5;have hbox5:=hbx4.out.grown hg5 (fun e=>by have:=hneb.out _ e.symm;omega);have hb5:=iD (hbW4.out.trans (Yd hrow4 hg5 hbW4.out.size));have hY5:=iD (hY4.out.low (Yd hrow4 hg5 hbW4.out.size));have hh5:=iD (hheads1.out w5 (fun k b u h1 h2=>(hh4.out k b u h1 h2).keepRow hrow4 (by decide) hg5));have hne5:Hid (∀ g,(lC VA T1.length vc).ownBlock=some g->g ≠ wr.heap.size):=iD (fun g hg=>by
                    rcases hown5 with h | h
                    · rw[h] at hg;have:=hneb.out g hg;omega
                    · have:=h g hg;omega)
                  replace hrow5:=iD hrow5;clear hg5 hown5 hle hce hno hpT0 hdl
                all_goals
                  have e2:w5.cell? ⟨wr.heap.size,2,none⟩=some (.slice YA c.new.length yc):=by rw[hbox5.cell];rfl
                  go_wp2;go_roundw
                  case rel =>
                    refine⟨k+1,by omega,by go_num,?_,?_,hb5.out⟩
                    · rw[hfk.out,hst1.out,hmid.out,k6,nB]
                      exact⟨vs1,hv1l.out,hrow5.out,hh5.out⟩
                    · rw[hfk.out];exact hwn
                  case measure=>simp[intOf];omega
              · have d1:decide (0<(c.new.length:Int))=true:=decide_eq_true (by omega)
                have hmid:Hid (Q8 c=[⟨c.name,c.new⟩]):=iD (by unfold Q8;rw[if_neg (fun e=>hnw (by rw[e];rfl))]);cases hit
                focus
                  obtain⟨hTe,hve⟩:=hno.out (by first | trivial | rfl);subst hTe;subst hve;have hrow5:=iD hrow4;have hh5:=hh4;have hbox5:=hbx4.out;have hY5:=hY4;have hb5:=hbW4;have hne5:Hid (∀ g,(lC FA T1.length fc).ownBlock=some g->g ≠ wr.heap.size):=iD (fun g hg=>by have:=hneb.out g hg;omega);obtain⟨w5,hw5⟩:∃ w5,w5=w4:=⟨_,rfl⟩;subst hw5;obtain⟨VA,hVA⟩:∃ VA,VA=FA:=⟨_,rfl⟩;subst hVA;obtain⟨vc,hvc⟩:∃ vc,vc=fc:=⟨_,rfl⟩;subst hvc;clear hyes hpT0 hdl
                rotate_left
                focus
                  go_wp2_with fail;refine (hdl.out (by first | trivial | rfl)).mono ?_;rintro e w5 ⟨V,rfl,hrow5,hg5,hown5⟩;obtain⟨hle,hce⟩:=hyes.out (by first | trivial | rfl);rw[<-hle,<-hce] at hrow5;obtain⟨VA,vc,rfl,_,_⟩:=Z6 hrow5;have hbox5:=hbx4.out.grown hg5 (fun e=>by have:=hneb.out _ e.symm;omega);have hb5:=iD (hbW4.out.trans (Yd hrow4 hg5 hbW4.out.size));have hY5:=iD (hY4.out.low (Yd hrow4 hg5 hbW4.out.size));have hh5:=iD (hheads1.out w5 (fun k b u h1 h2=>(hh4.out k b u h1 h2).keepRow hrow4 (by decide) hg5));have hne5:Hid (∀ g,(lC VA T1.length vc).ownBlock=some g->g ≠ wr.heap.size):=iD (fun g hg=>by
                    rcases hown5 with h | h
                    · rw[h] at hg;have:=hneb.out g hg;omega
                    · have:=h g hg;omega)
                  replace hrow5:=iD hrow5;clear hg5 hown5 hle hce hno hpT0 hdl
                all_goals
                  have e2:w5.cell? ⟨wr.heap.size,2,none⟩=some (.slice YA c.new.length yc):=by rw[hbox5.cell];rfl
                  have e0:w5.cell? ⟨wr.heap.size,0,none⟩=some (.string ⟨c.name.toArray⟩):=by rw[hbox5.cell];rfl
                  have hgl5:wr.heap.size<w5.heap.size:=hbox5.lt;go_wp2_with fail;have hone1:=iD (Z5h T1 vs1 hv1l.out hh5.out);have hO5:Hid (∀ W,Below w5.heap.size w5 W->W.ownsRow w.heap.size 192 2 (.slice VA T1.length vc) T1.length (Y4 T1 vs1)/\(∀ (k:Nat) b u,T1[k]?=some b->vs1[k]?=some u->Z7 W (Yc W w.heap.size) u b.heads)/\Z7 W (· < w.heap.size) (.slice YA c.new.length yc) c.new/\Below w.heap.size w W/\W.cell? ⟨wr.heap.size,0,none⟩=some (.string ⟨c.name.toArray⟩)/\W.cell? ⟨wr.heap.size,2,none⟩=some (.slice YA c.new.length yc)):=iD (fun W hW =>
                    ⟨Zk (L:=[]) hrow5.out (Touch.ofBelow hW) (by simp),fun k b u h1 h2=>(hh5.out k b u h1 h2).keepB hW,hY5.out.stayB hW,hb5.out.trans (hW.mono hb5.out.size),(by rw[hW.cell (p:=⟨wr.heap.size,0,none⟩) hgl5];exact e0),(by rw[hW.cell (p:=⟨wr.heap.size,2,none⟩) hgl5];exact e2)⟩)
                  have hS5:Hid (∀ W o W4,Below w5.heap.size w5 W->(W.alloc o).grownBy W4 (lC VA T1.length vc).ownBlock->W4.cell? ⟨wr.heap.size,0,none⟩=some (.string ⟨c.name.toArray⟩)/\W4.cell? ⟨wr.heap.size,2,none⟩=some (.slice YA c.new.length yc)):=iD (fun W o W4 hW hg=>by
                    have hlt:wr.heap.size<W.heap.size:=nL hgl5 hW.size;have hblk:W4.heap[wr.heap.size]?=W.heap[wr.heap.size]?:=(hg.block _ (by simp;omega) (fun e=>hne5.out _ e.symm rfl)).trans (nZ W o _ hlt);have e0:W4.cell? ⟨wr.heap.size,0,none⟩=W.cell? ⟨wr.heap.size,0,none⟩:=nN hblk;have e1:W4.cell? ⟨wr.heap.size,2,none⟩=W.cell? ⟨wr.heap.size,2,none⟩:=nN hblk;rw[e0,e1];exact (hO5.out W hW).2.2.2.2)
                  have hbd:Below w5.heap.size w5 w5.drew:=(lG _ _).drew;have hrl:Hid (∀ b,(lC VA T1.length vc).ownBlock=some b->b<w5.heap.size):=iD (fun b hb=>(hrow5.out.lt b hb).2);have hsz5:=hb5.out.size;clear hbox5 hrow4 hbox4;go_region_held3 (fun w'=>w'.cell? ⟨wr.heap.size,0,none⟩=some (.string ⟨c.name.toArray⟩)/\w'.cell? ⟨wr.heap.size,2,none⟩=some (.slice YA c.new.length yc)) (first | exact hS5.out _ _ _ hb3.out hg6.out | exact (hO5.out _ hb3.out).2.2.2.2 | go_keep)
                    (first
                      | (go_at_call 40;(with_reducible refine (Z31 c.new _ _ w5.drew (hO5.out _ hbd).2.2.1 hc1.new).mono ?_);rintro e W3 ⟨cu,rfl,hcu,hb3'⟩;have hb3:=iD (hbd.trans hb3');clear hb3';obtain⟨CA,ca,rfl,hcc1,hcc2⟩:=id hcu;replace hcu:=iD hcu)
                      | (go_at_call 183;(with_reducible refine (Zha w.heap.size (.slice VA T1.length vc) T1.length p (Y4 T1 vs1) W3.heap.size (.string ⟨c.name.toArray⟩) (.slice CA c.new.length ca) (W3.alloc (.cells #[.string ⟨c.name.toArray⟩,.slice CA c.new.length ca] 192)) ((hO5.out _ hb3.out).1.alloc _) (by omega) hple1 hone1.out (Blk.new_at (cs:=[.string ⟨c.name.toArray⟩,.slice CA c.new.length ca]) rfl) rfl rfl (by have:=hb3.out.size;simp;omega) (fun e=>by have:=hrl.out _ e;have:=hb3.out.size;omega)).mono ?_);rintro e W6 ⟨V6,rfl,hrow6,hg6,hown6⟩;replace hrow6:=iD hrow6;replace hg6:=iD hg6;clear hown6;obtain⟨VA6,vc6,rfl,_,_⟩:=Z6 hrow6.out))
                  have hO6:=iD (hO5.out _ hb3.out);clear hO5 hS5 hcc2 hbd e0 e2;go_wp2;go_roundw
                  case rel =>
                    obtain⟨r3,h3,_,bw3,_⟩:=hO6.out;have hba:Below W3.heap.size W3 (W3.alloc (lJ #[lM ⟨c.name.toArray⟩,lC CA c.new.length ca] 192)):=bL;have hro:=r3.alloc (lJ #[lM ⟨c.name.toArray⟩,lC CA c.new.length ca] 192);refine⟨k+1,by omega,by go_num,?_,by rw[hfk.out];exact hwn,?_⟩
                    · rw[hfk.out,hst1.out,hmid.out]
                      refine Zz.parts (M:=[⟨c.name,c.new⟩]) (ms:=[.slice CA c.new.length ca]) hv1l.out rfl hple1 (fun k b u h1 h2=>((h3 k b u h1 h2).keepB hba).keepRow hro (by decide) hg6.out) (fun k b u h1 h2=>?_) (n:=T1.length+1) (by simp only[lF,lX];omega) hrow6.out;have hk0:k=0:=by
                        have:=(lP.1 h1).1;simp only[lF,lX] at this;omega
                      subst hk0;simp only[n0,lW] at h1 h2;subst h1;subst h2;exact ((hcu.out.lower hsz5).keepB hba).keepRow hro (by decide) hg6.out
                    · exact bw3.trans ((hba.mono bw3.size).trans (Yd hro hg6.out (by have:=bw3.size;simp;omega)))
                  case measure=>simp[intOf];omega
            · obtain rfl:k=C.length:=by omega
              rw[lU] at hO hway;have hfold:=Z5g C T ms.out;rw[hfold] at hO hway;obtain⟨FA,fc,rfl,_⟩:=hO.form;have hpl:(Vu T C).length<=64:=by have:=hway.out.len;omega
              by_cases hbig:32<(Vu T C).length
              · have hfin:Hid (Yy T C=4):=iD (by rw[hAE2.out,if_pos hbig])
                replace hb:=iD hb;clear hO;go_wp2;go_ret2;exact Z35 hfin.out (by decide) hb.out rfl
              · have hfin:Hid (Yy T C=0):=iD (by rw[hAE2.out,if_neg hbig])
                replace hb:=iD hb;replace hO:=iD hO;go_wp2;go_ret2;exact⟨_,Z12 rfl (by rw[hfin.out];rfl),by unfold Zu;rw[if_pos hfin.out];exact hO.out,hb.out⟩
  · rw[if_neg hm] at hAE
    obtain⟨x,hx⟩:∃ x,x=Yu T:=⟨_,rfl⟩;rw[<-hx] at hmay hm hAE;have g1:(x != 0)=true:=by simpa using hm
    replace hAE:=iD hAE;replace hm:=iD hm;clear hx h h' hf hc;go_enter func110,ntmps110;go_wp2_with fail;refine hmay.out.mono ?_;rintro e w1 ⟨rfl,hb1⟩;replace hb1:=iD hb1;go_wp2;go_ret2;exact Z35 hAE.out hm.out hb1.out rfl
end Go.Proofs.YtfdimggmljkkbaaGreatDoor
end
end
end
section
set_option maxRecDepth 100000
set_option maxHeartbeats 1000000
open Go.Lib renaming hid → iD
open Go.Proofs.Tryz
namespace Go.Proofs.YtfdimggmljkkbaaGreatDoor
open Go.RowKit
def Y3(w w':World):Prop:=∀ g t cs,Blk w g t cs->t ≠ 5->Blk w' g t cs
theorem Y3.trans{a b c:World}(h:Y3 a b)(k:Y3 b c):Y3 a c:=fun g t cs hB hn=>k g t cs (h g t cs hB hn) hn
theorem Y3.below{w w':World}(h:Below w.heap.size w w'):Y3 w w':=fun _ _ _ hB _=>hB.below h hB.lt
theorem Y3.grown{w w':World}{base n:Nat}{v:Value}{xs:List Value}(ho:w.ownsRow base 5 1 v n xs)(h:w.grownBy w' v.ownBlock):Y3 w w':=fun g t cs hB hne=>hB.grown h (fun he=>by
 rcases ho.2 with ⟨rfl,_⟩ | ⟨g',cap,cur,rfl,_,hg,_⟩
 ·cases he
 ·have e':g=g':=by
   simp[lV] at he;exact he
  subst e';have h1:=hB.symm.trans hg
  injection h1 with h1
  injection h1 with _ h2
  exact hne h2)
def Z9x(w:World)(base:Nat)(xs:Str)(e:Ending)(w':World):Prop:=∃ V,e=.returned V/\w'.ownsRow base 5 1 V xs.length (xs.map B)/\Below base w w'/\Y3 w w'
theorem Kl(n:Nat)(v:Value)(xs:Str)(base:Nat)(w:World)(hn:n<=4611686018427387904)(ho:w.ownsRow base 5 1 v xs.length (xs.map B))(hbase:base<=w.heap.size)(hx:xs.length<=1099511627776) :
  Calls lA 100 #[v,.int .i64 n] w (Z9x w base (xs++Zp n)):=by
 obtain⟨FA,fc,rfl,_,_⟩:=Z6 ho;have hnum:=iD (Zfv n w hn);have hpl:=Z01 9 n (by omega);replace ho:=iD ho;go_enter func100,ntmps100;go_wp2_with fail;refine hnum.out.mono ?_;rintro e W ⟨V,rfl,hV,hb⟩;obtain⟨GA,gc,rfl,_,_⟩:=Z6 hV;have hO:=iD (Zk ho.out (Touch.ofBelow (L:=[]) hb) (fun _ _ hm=>by cases hm));have hR:=iD (Ua hV);replace hb:=iD hb;have hbs:=hb.out.size;clear hV;go_wp2_with (at_builtin;refine X0 _ rfl (.tmp 12) (.tmp 13) 99 rfl base 5 (B 0) 1 1 underlying99 Kc (.slice FA xs.length fc) xs.length (xs.map B) rfl hO.out _ GA (Zp n).length gc ((Zp n).map B) rfl (by simp) hR.out (by simp[lR]) (by unfold maxLen;omega) (by omega) (by omega) ?_;intro v4 W4 hrow4 hg4 hv4;replace hrow4:=iD hrow4;replace hg4:=iD hg4;clear hv4;obtain⟨VA,vc,rfl,_,_⟩:=Z6 hrow4.out;go_frame);go_ret;refine⟨_,rfl,?_,(hb.out.mono hbase).trans (Yd hO.out hg4.out (by omega)),(Y3.below hb.out).trans (Y3.grown hO.out hg4.out)⟩;have:=hrow4.out;simpa using this
end Go.Proofs.YtfdimggmljkkbaaGreatDoor
end
