import Derived.Test.YtefjlobdifjogaaGreatDoorP03
import Derived.Shelf.Abstract
import Derived.Deep.RegionHeld3
import Derived.Lib.AppendZerosOnto
import Derived.Lib.AppendZeros
import Derived.Lib.Overlaps
open Bool renaming false_eq_true → l3
open Go renaming rounds_succ → lN, wp_loop_rounds → lU
open Go.Instr renaming sliceAt → lR, slice → nG, sliceBounds → nH
open Go.IntKind renaming u8 → lZ
open Go.Lib renaming strCells → l0, compareBytes → l2
open Go.Obj renaming cells → lL
open Go.Proofs.Tryz renaming prog → lA
open Go.Region renaming wanted → lQ
open Go.RowKit.Below renaming refl → lD, heap_alloc → l9
open Go.Value renaming oneCell' → lF, slice → lG, string → lY, ownBlock → nA
open Go.World renaming block_lt_of_cell? → lV, cell?_of_block → nF
open List renaming takeWhile_cons → lJ, length_append → lK, map_append → lM, getElem?_eq_getElem → lO, length_cons → lP, append_assoc → lS, drop_zero → lW, take_length → lX, nil_append → l1, getElem?_eq_none → l4, mem_of_find?_eq_some → l5, getElem_mem → l6, eq_nil_of_length_eq_zero → l7, take_append_drop → l8, getElem?_append_left → nB, getElem?_append_right → nC, getElem?_cons_zero → nE
open Nat renaming le_refl → lB, lt_of_lt_of_le → lC, le_trans → lH, zero_le → lI, sub_self → nD
open Option.some renaming injEq → lT
open UInt8 renaming ofNat → lE
namespace Go.Proofs.YtefjlobdifjogaaGreatDoor
section
set_option maxRecDepth 100000
set_option maxHeartbeats 4000000
open Go.Lib renaming hid → iD
open Go.Proofs.Tryz
open Go.RowKit
def G1(w:World)(base:Nat)(xs:Str)(e:Ending)(w':World):Prop:=∃ V,e=.returned V/\w'.ownsRow base 5 1 V xs.length (xs.map B)/\Below base w w'
theorem Kh:InfoOf lA 5 (B 0) 1 1:=⟨by kernel_rfl,rfl,by omega⟩
theorem Zdi:∀ k:Fin 256,bits BinOp.or lZ ((k.1:Nat):Int) 128=bv (lE (k.1 % 128+128)):=by decide +kernel
theorem or128(m:Nat):bits BinOp.or lZ ((m:Int) % 256) 128=bv (lE (m % 128+128)):=by
 have:=Zdi ⟨m % 256,by omega⟩;have e:((m:Int) % 256)=((m % 256:Nat):Int):=by omega
 rw[e,this];have e2:m % 256 % 128=m % 128:=by omega
 simp only[e2]
theorem Zdj:∀ k:Fin 256,((k.1:Nat):Int)=bv (lE k.1):=by decide +kernel
theorem low8(m:Nat)(h:m<128):((m:Int) % 256)=bv (lE m):=by
 have:=Zdj ⟨m,by omega⟩;simp only at this;rw[<-this];omega
theorem Z7c(n:Nat)(v:Value)(xs:Str)(base:Nat)(w:World)(hn:n<=9223372036854775807)(ho:w.ownsRow base 5 1 v xs.length (xs.map B))(hbase:base<=w.heap.size)(hx:xs.length<=1099511627776) :
  Calls lA 137 #[v,.int .i64 n] w (G1 w base (xs++Z3 n)):=by
 have hpl:=Kf 9 n (by (have : (128:Nat) ^ 9=9223372036854775808:=by decide);omega);obtain⟨VA,vc,rfl,_,_⟩:=Za ho;replace ho:=iD ho;go_enter func137,ntmps137;go_wp2;go_loopw [0,1] (fun b i wr=>∃ (m:Nat) (ys:Str),m<=n/\i=.int .i64 m/\Hid (Z3 n=ys++Z3 m)/\wr.ownsRow base 5 1 b (xs++ys).length ((xs++ys).map B)/\Below base w wr) (fun _ i _=>(intOf i).toNat)
 case atStart=>exact⟨n,[],lB _,rfl,iD rfl,by simpa using ho.out,lD _ _⟩
 case round =>
  obtain⟨m,ys,hm,rfl,he,hrow,hb⟩:=hrel;obtain⟨FA,fc,rfl,_,_⟩:=Za hrow;have hyl:ys.length<=10:=by
   have:=congrArg List.length he.out;rw[lK] at this;omega
  have hsz:=hb.size;obtain⟨zs,hzs⟩:∃ zs,zs=xs++ys:=⟨_,rfl⟩;have hzl:zs.length<=1099511627786:=by rw[hzs,lK];omega
  rw[<-hzs] at hrow ⊢;replace hrow:=iD hrow;replace hzs:=iD hzs;by_cases h128:128<=m
  ·have d1:decide (128<=(m:Int))=true:=decide_eq_true (by omega);have e1:=or128 m;have hpb:=iD (Ot h128);obtain⟨c,hc⟩:∃ c,c=lE (m % 128+128):=⟨_,rfl⟩;rw[<-hc] at e1 hpb;clear hc;go_wp2_with (at_builtin;refine Yt _ rfl (.tmp 9) (.tmp 13) 57 rfl base 5 (B 0) 1 1 underlying57 Kh (.slice FA zs.length fc) zs.length (zs.map B) rfl (hrow.out.alloc _) (fun _=>True) (some ⟨wr.heap.size,0,none⟩) 1 1 [B c] rfl rfl (Rd.of_blk (cs:=[B c]) (r:=[]) (Blk.new_at rfl) rfl trivial) (by simp[lF]) (by unfold maxLen;omega) (by omega) (by simp;omega) ?_;intro v4 W4 hrow4 hg4 hv4;replace hrow4:=iD hrow4;replace hg4:=iD hg4;clear hv4;obtain⟨GA,gc,rfl,_,_⟩:=Za hrow4.out;go_frame);go_roundw
   case rel =>
    have hba:=hb.trans (((lD _ _).alloc (lB _) (lL #[B c] 5)).mono (lH hbase hsz));have h5:=hrow4.out;refine⟨m / 128,ys++[c],by omega,?_,iD (by rw[he.out,hpb.out,lS];rfl),?_,hba.trans (Yo (hrow.out.alloc _) hg4.out (by simp;omega))⟩
    ·go_num
    ·rw[<-lS,<-hzs.out,lK,lM];exact h5
   case measure=>simp[intOf];omega
  ·have d1:decide (128<=(m:Int))=false:=decide_eq_false (by omega);have e1:Hid ((m:Int)=bv (lE m)):=iD (by have:=low8 m (by omega);omega);have hpb:=iD (Xq (by omega:m<128));obtain⟨c,hc⟩:∃ c,c=lE m:=⟨_,rfl⟩;rw[<-hc] at e1 hpb;clear hc;go_wp2_with (at_builtin;refine Yt _ rfl (.tmp 15) (.tmp 18) 57 rfl base 5 (B 0) 1 1 underlying57 Kh (.slice FA zs.length fc) zs.length (zs.map B) rfl (hrow.out.alloc _) (fun _=>True) (some ⟨wr.heap.size,0,none⟩) 1 1 [.int .u8 (m:Int)] rfl rfl (Rd.of_blk (cs:=[.int .u8 (m:Int)]) (r:=[]) (Blk.new_at rfl) rfl trivial) (by simp[lF]) (by unfold maxLen;omega) (by omega) (by simp;omega) ?_;intro v4 W4 hrow4 hg4 hv4;replace hrow4:=iD hrow4;replace hg4:=iD hg4;clear hv4;obtain⟨GA,gc,rfl,_,_⟩:=Za hrow4.out;go_frame);go_ret;have hba:=hb.trans (((lD _ _).alloc (lB _) (lL #[Value.int .u8 (m:Int)] 5)).mono (lH hbase hsz));refine⟨_,rfl,?_,hba.trans (Yo (hrow.out.alloc _) hg4.out (by simp;omega))⟩;have e2:xs++Z3 n=zs++[c]:=by rw[he.out,hpb.out,hzs.out,lS]
   have e3:=e1.out;have h5:=hrow4.out;rw[e3] at h5;rw[e2,lK,lM];exact h5
theorem Zdk(n:Nat)(v:Value)(xs:Str)(base:Nat)(w:World)(hn:n<=4611686018427387904)(ho:w.ownsRow base 5 1 v xs.length (xs.map B))(hbase:base<=w.heap.size)(hx:xs.length<=1099511627776) :
  Calls lA 137 #[v,.int .i64 n] w (G1 w base (xs++Z3 n)):=Z7c n v xs base w (by omega) ho hbase hx
theorem G2(s:Str):(⟨s.toArray⟩:ByteArray).size=s.length:=by simp[ByteArray.size]
theorem Zdl:∃ i,lA.info? 5=some i/\i.zero=some (.int .u8 0)/\i.size=1/\i.bytes=1:=by
 have h:=Kh.info;cases hq:lA.info? 5 with
 | none=>simp[hq] at h
 | some i =>
  simp only[hq,Option.map_some,lT,Prod.mk.injEq] at h;exact⟨i,rfl,h.1,h.2.1,h.2.2⟩
theorem Z1s(t:Str):l0 ⟨t.toArray⟩=t.map B:=by
 simp[l0,B,bv]
theorem Z7d(w:World):w.ownsRow w.heap.size 5 1 (.slice none 0 0) ([]:Str).length (([]:Str).map B):=⟨rfl,.inl ⟨rfl,rfl⟩⟩
theorem Z7e(n:Nat)(w:World)(hn:n<=9223372036854775807) :
  Calls lA 136 #[.int .i64 n] w fun e w'=>∃ V,e=.returned (.tuple #[V,.int .i64 0])/\w'.ownsRow w.heap.size 5 1 V (Z3 n).length ((Z3 n).map B)/\Below w.heap.size w w':=by
 have hp:=iD (Z7c n (.slice none 0 0) [] w.heap.size w hn (Z7d w) (lB _) (by simp));unfold G1 at hp;rw[l1] at hp;have d1:decide ((n:Int)<0)=false:=decide_eq_false (by omega);go_enter func136,ntmps136;go_wp2_with fail;refine hp.out.mono ?_;rintro e w1 ⟨V,rfl,ho,hb⟩;obtain⟨GA,gc,rfl,_,_⟩:=Za ho;replace ho:=iD ho;go_wp2;go_ret2;exact⟨_,rfl,ho.out,hb⟩
theorem Z7f(n:Nat)(w:World)(hn:n<=4611686018427387904) :
  Calls lA 136 #[.int .i64 n] w fun e w'=>∃ V,e=.returned (.tuple #[V,.int .i64 0])/\w'.ownsRow w.heap.size 5 1 V (Z3 n).length ((Z3 n).map B)/\Below w.heap.size w w':=Z7e n w (by omega)
theorem Z1t(s:Str)(w:World)(hs:s.length<=140737488355000) :
  Calls lA 48 #[Z1 s] w (G1 w w.heap.size (Zr s)):=by
 have hp:=iD (Zdk s.length (.slice none 0 0) [] w.heap.size w (by omega) (Z7d w) (lB _) (by simp));unfold G1 at hp;rw[l1] at hp;have hpl:=Kf 9 s.length (by (have : (128:Nat) ^ 9=9223372036854775808:=by decide);omega);obtain⟨ps,hps⟩:∃ ps,ps=Z3 s.length:=⟨_,rfl⟩;rw[<-hps] at hp hpl;replace hps:=iD hps;have hsl:=G2 s;obtain⟨i0,hi,hz0,hz1,hz2⟩:=Zdl;replace hi:=iD hi;replace hz0:=iD hz0;replace hz1:=iD hz1;replace hz2:=iD hz2;unfold Z1;go_enter func48,ntmps48;go_wp2_with fail;refine hp.out.mono ?_;rintro e w1 ⟨V,rfl,ho,hb⟩;obtain⟨GA,gc,rfl,_,_⟩:=Za ho;have hsz:=hb.size;replace ho:=iD ho;go_wp2_with (at_builtin;refine Lib.wpList_append_own_string _ rfl (.tmp 5) (.tmp 6) 57 9 rfl w.heap.size 5 i0 underlying57 underlying9 hi.out hz0.out hz1.out hz2.out (.slice GA ps.length gc) ps.length (ps.map B) rfl ho.out ⟨s.toArray⟩ rfl (by rw[hsl];unfold maxLen;omega) (by rw[hsl];omega) hsz ?_;intro v4 W4 hrow4 hg4 hv4;replace hrow4:=iD hrow4;replace hg4:=iD hg4;clear hv4;obtain⟨FA,fc,rfl,_,_⟩:=Za hrow4.out;go_frame);go_ret;have h5:=hrow4.out;rw[Z1s,hsl] at h5;refine⟨_,rfl,?_,hb.trans (Yo ho.out hg4.out hsz)⟩;rw[show Zr s=ps++s by rw[hps.out];rfl,lK,lM];rw[hsl];exact h5
end
section
set_option maxRecDepth 100000
set_option maxHeartbeats 1000000
open Go.Lib renaming hid → iD
open Go.Proofs.Tryz
open Go.RowKit
def Vp(w:World)(id:Str):Nat->Str->Value->List Nat->Prop
 | _,[],v,ns=>v=Z0/\ns=[]
 | k,c :: t,v,ns=>∃ a cap nb v' ns',v=.slice (some a) 1 cap/\w.cell? a=some (.pointer (some ⟨nb,0,none⟩))/\Blk w nb 332 (Yl ⟨false,id,((k+1:Nat):Int)⟩ c false Z0 v')/\Vp w id (k+1) t v' ns'/\ns=nb :: ns'
def Uf(gone:Bool)(nb:Nat):List Value:=if gone then [] else [.pointer (some ⟨nb,0,none⟩)]
def Qw(ns:List Nat):List Value:=ns.map fun n=>.pointer (some ⟨n,0,none⟩)
def Q8(lb:Nat):Value:=.func (.func 288) #[] #[.pointer (some ⟨lb,0,none⟩)]
def Ug(cb fb:Nat):Value:=.func (.func 339) #[] #[.pointer (some ⟨cb,0,none⟩),.pointer (some ⟨fb,0,none⟩)]
structure WalkSt (W0 W:World) (lb fb cb:Nat) (xs:List Value):Prop where
 below:Below lb W0 W
 size:cb<W.heap.size
 lf:lb<fb
 fc:fb<cb
 fbB:Blk W fb 398 [Q8 lb]
 cbB:Blk W cb 398 [Ug cb fb]
 row:∃ V,Blk W lb 328 [V]/\W.ownsRow (cb+1) 330 1 V xs.length xs
theorem Z7g:InfoOf lA 330 (.pointer none) 1 8:=⟨by kernel_rfl,rfl,by omega⟩
theorem WalkSt.set{W0 W W1 W4:World}{lb fb cb:Nat}{xs ys:List Value}{V V':Value}(h:WalkSt W0 W lb fb cb xs)(hV:Blk W lb 328 [V])(ho:W.ownsRow (cb+1) 330 1 V xs.length xs)
  (h1:Below W.heap.size W W1) (hg:W1.grownBy W4 V.ownBlock) (hrow:W4.ownsRow (cb+1) 330 1 V' ys.length ys):WalkSt W0 (W4.setCell ⟨lb,0,none⟩ V') lb fb cb ys:=by
 have ho1:W1.ownsRow (cb+1) 330 1 V xs.length xs:=Zj ho (Touch.ofBelow (L:=[]) h1) (fun b _ hm=>by cases hm);have hlt:∀ k,V.ownBlock=some k->cb+1<=k:=fun k hk=>(ho1.lt k hk).1;have hlt':∀ k,V'.ownBlock=some k->cb+1<=k:=fun k hk=>(hrow.lt k hk).1;have hsz:=h.size;have hlf:=h.lf;have hfc:=h.fc;have hne:∀ k,k<=cb->some k ≠ V.ownBlock:=fun k hk e=>by
  have:=hlt k e.symm;omega
 have hs1:cb+1<=W1.heap.size:=lH hsz h1.size;refine⟨?_,?_,hlf,hfc,?_,?_,V',?_,?_⟩
 ·exact ((h.below.trans (h1.mono (by omega))).trans ((Yo ho1 hg hs1).mono (by omega))).setCell (lB _) _
 ·have:=hg.size;simp;omega
 ·exact (((h.fbB.below h1 (by omega)).grown hg (hne fb (by omega))).far (by simp;omega) _)
 ·exact (((h.cbB.below h1 (by omega)).grown hg (hne cb (by omega))).far (by simp;omega) _)
 ·exact ((hV.below h1 (by omega)).grown hg (hne lb (by omega))).set_ 0 _
 ·refine Zj hrow (Touch.setCell (L:=[lb]) _ (by simp)) ?_;intro b hb hm;have:=hlt' b hb;simp at hm;omega
theorem WalkSt.drewN{W0 W:World}{lb fb cb:Nat}{xs:List Value}(h:WalkSt W0 W lb fb cb xs)(n:Nat):WalkSt W0 (W.drewN n) lb fb cb xs:=by
 have hT:=Touch.drewN (w:=W) (L:=[]) n;obtain⟨V,hV,ho⟩:=h.row;have hs:=h.size;have h1:=h.lf;have h2:=h.fc;exact⟨h.below.trans (hT.below (by omega) (fun _ hi=>by cases hi)),lC hs hT.size,h1,h2,h.fbB.drewN n,h.cbB.drewN n,V,hV.drewN n,Zj ho hT (fun _ _ hm=>by cases hm)⟩
theorem Zdm{w:World}{base base':Nat}{e:TypeId}{n:Nat}{v:Value}{xs:List Value}(hb:base'<=base)(h:w.ownsRow base e 1 v n xs):w.ownsRow base' e 1 v n xs:=by
 rcases h with ⟨h1,⟨h2,h3⟩ | ⟨g,cap,cur,h2,h3,h4⟩⟩
 ·exact⟨h1,.inl ⟨h2,h3⟩⟩
 ·exact⟨h1,.inr ⟨g,cap,cur,h2,lH hb h3,h4⟩⟩
theorem Z7h(W0 W:World)(lb fb cb nb:Nat)(xs:List Value)(r:PRef)(b:UInt8)(gone:Bool)(l rt:Value)(h:WalkSt W0 W lb fb cb xs)(hn:Blk W nb 332 (Yl r b gone l rt))(hr:r.com.length=32)(hx:xs.length<=1099511627776) :
  Calls lA 288 #[.pointer (some ⟨nb,0,none⟩),.pointer (some ⟨lb,0,none⟩)] W fun e W'=>e=.returned (.bool true)/\WalkSt W0 W' lb fb cb (xs++Uf gone nb):=by
 have c0:W.cell? ⟨nb,35,none⟩=some (.bool gone):=by rw[hn.cell];simp[Yl,Z4,hr]
 obtain⟨V,hV,ho⟩:=h.row;have cV:W.cell? ⟨lb,0,none⟩=some V:=by rw[hV.cell];rfl
 have hst:=iD h;cases gone with
 | true =>
  clear h hn hr ho hV;go_enter func288,ntmps288;go_wp2;go_ret;exact⟨rfl,by simpa[Uf] using hst.out⟩
 | false =>
  obtain⟨FA,fc,rfl,_,_⟩:=Za ho;have hsz:=h.size;have hne:=iD (fun e:some lb=(lG FA xs.length fc).ownBlock=>(by
   have h1:=(ho.lt lb e.symm).1;have h2:=h.lf;have h3:=h.fc;omega:False))
  replace ho:=iD ho;replace hV:=iD hV;clear h hn hr;go_enter func288,ntmps288;go_wp2_with (at_builtin;refine Yt _ rfl (.tmp 9) (.tmp 11) 328 rfl (cb+1) 330 (.pointer none) 1 8 underlying328 Z7g (.slice FA xs.length fc) xs.length xs rfl (ho.out.alloc _) (fun _=>True) (some ⟨W.heap.size,0,none⟩) 1 1 [.pointer (some ⟨nb,0,none⟩)] rfl rfl (Rd.of_blk (cs:=[.pointer (some ⟨nb,0,none⟩)]) (r:=[]) (Blk.new_at rfl) rfl trivial) (by simp[lF]) (by unfold maxLen;omega) (by omega) (by simp;omega) ?_;intro v4 W4 hrow4 hg4 hv4;replace hrow4:=iD hrow4;replace hg4:=iD hg4;clear hv4;obtain⟨GA,gc,rfl,_,_⟩:=Za hrow4.out;have hB4:Blk W4 lb 328 [.slice FA xs.length fc]:=(hV.out.alloc _).grown hg4.out hne.out;have cL:W4.cell? ⟨lb,0,none⟩=some (.slice FA xs.length fc):=hB4.cell 0;have fL:=hB4.frozen 0;clear hB4;go_frame);go_ret;refine⟨rfl,hst.out.set hV.out ho.out bL hg4.out ?_⟩;have h5:=hrow4.out;simpa[Uf] using h5
theorem Zdn(id:Str)(hid:id.length=32)(lb fb cb:Nat)(W0:World):∀ (t:Str) (k:Nat) (v:Value) (ns:List Nat) (xs:List Value) (nb:Nat) (r:PRef) (b:UInt8) (gone:Bool) (W:World),
  WalkSt W0 W lb fb cb xs->Blk W0 nb 332 (Yl r b gone Z0 v)->Vp W0 id k t v ns->W0.heap.size<=lb->r.com.length=32->xs.length+t.length<=1000000000 ->
  Calls lA 339 #[.pointer (some ⟨nb,0,none⟩),.pointer (some ⟨cb,0,none⟩),.pointer (some ⟨fb,0,none⟩)] W fun e W'=>e=.returned (.bool true)/\WalkSt W0 W' lb fb cb (xs++(Uf gone nb++Qw ns)):=by
 intro t;induction t with
 | nil =>
  intro k v ns xs nb r b gone W h hn hc hl hr hx;obtain⟨rfl,rfl⟩:=hc;have hn':Blk W nb 332 (Yl r b gone Z0 Z0):=hn.below h.below (lC hn.lt hl);have c36:W.cell? ⟨nb,36,none⟩=some Z0:=by rw[hn'.cell];simp[Yl,Z4,hr]
  have cf:W.cell? ⟨fb,0,none⟩=some (Q8 lb):=by rw[h.fbB.cell];rfl
  have hcall:=iD (Z7h W0 W lb fb cb nb xs r b gone Z0 Z0 h hn' hr (by simp at hx;omega));replace hn:=iD hn;unfold Q8 at cf;clear h hn';go_enter func339,ntmps339;go_wp2_with fail;refine lU 1 ?_;rw[lN];go_wp2_with fail;refine hcall.out.mono ?_;rintro e W1 ⟨rfl,h1⟩;have c37:W1.cell? ⟨nb,37,none⟩=some Z0:=by
   have hn1:=hn.out.below h1.below (lC hn.out.lt hl);rw[hn1.cell];simp[Yl,Z4,hr]
  replace h1:=iD h1;go_wp2_with fail;go_rounds 1;go_ret;exact⟨rfl,by simpa[Qw] using h1.out⟩
 | cons c t ih =>
  intro k v ns xs nb r b gone W h hn hc hl hr hx;obtain⟨a,cap,nb1,v',ns',rfl,ha,hn1,hc1,rfl⟩:=hc;have hih:=iD (fun xs1 W1 h1 hx1=>ih (k+1) v' ns' xs1 nb1 ⟨false,id,((k+1:Nat):Int)⟩ c false W1 h1 hn1 hc1 hl hid hx1);have hn':Blk W nb 332 (Yl r b gone Z0 (.slice (some a) 1 cap)):=hn.below h.below (lC hn.lt hl);have c36:W.cell? ⟨nb,36,none⟩=some Z0:=by rw[hn'.cell];simp[Yl,Z4,hr]
  have cf:W.cell? ⟨fb,0,none⟩=some (Q8 lb):=h.fbB.cell 0;have hcall:=iD (Z7h W0 W lb fb cb nb xs r b gone Z0 (.slice (some a) 1 cap) h hn' hr (by simp at hx;omega));replace hn:=iD hn;have hx':=iD hx;have hsl:(Uf gone nb).length<=1:=by cases gone <;> simp[Uf]
  replace hsl:=iD hsl;have ha':=iD ha;unfold Q8 at cf;clear h hn' ih hn1 hc1 ha hx;go_enter func339,ntmps339;go_wp2_with fail;refine lU 1 ?_;rw[lN];go_wp2_with fail;refine hcall.out.mono ?_;rintro e W1 ⟨rfl,h1⟩;have c37:W1.cell? ⟨nb,37,none⟩=some (.slice (some a) 1 cap):=by
   have hn1:=hn.out.below h1.below (lC hn.out.lt hl);rw[hn1.cell];simp[Yl,Z4,hr]
  have cb1:W1.cell? ⟨cb,0,none⟩=some (Ug cb fb):=h1.cbB.cell 0;unfold Ug at cb1;have ca:W1.cell? a=some (.pointer (some ⟨nb1,0,none⟩)):=by
   rw[h1.below.cell (p:=a) (lC (lV _ _ ha'.out) hl)];exact ha'.out
  have hcall2:=iD (hih.out _ W1 h1 (by
   have e1:=hx'.out;have e2:=hsl.out;simp at e1 ⊢;omega))
  clear h1;go_wp2_with fail;refine lU 2 ?_;rw[lN];go_wp2_with fail;refine hcall2.out.mono ?_;rintro e W2 ⟨rfl,h2⟩;replace h2:=iD h2;go_wp2_with fail;rw[lN];go_wp2_with fail;go_ret;exact⟨rfl,by simpa[Qw,Uf] using h2.out⟩
theorem Zdo(id:Str)(hid:id.length=32)(t:Str)(tb nb mb ab:Nat)(seen:Int)(es us:List (Value × Value))(v:Value)(ns:List Nat)(w W:World)(lb:Nat)(h:TreeAt w tb nb mb ab seen es us v)(hc:Vp w id 0 t v ns)(hl:t.length<=1000000)(hlb:lb=w.heap.size)(hW:W=w.alloc (.cells #[Z0] 328)) :
  Calls lA 287 #[.pointer (some ⟨tb,0,none⟩),Q8 lb] W fun e W'=>e=.returned (.tuple #[])/\Below lb w W'/\∃ V,Blk W' lb 328 [V]/\W'.ownsRow lb 330 1 V ns.length (Qw ns):=by
 have hsW:W.heap.size=lb+1:=by rw[hW,hlb];simp
 have hbW:Below lb w W:=by rw[hW,hlb];exact bL
 have hBl:Blk W lb 328 [Z0]:=by rw[hW];exact Blk.new_at (cs:=[Z0]) hlb
 have hT:TreeAt W tb nb mb ab seen es us v:=h.below (by rw[<-hlb];exact hbW);have hmade:=iD (fun W=>Z1q tb nb mb ab seen es us v W);have hTb:=iD (fun W2 (hb:Below W.heap.size W W2)=>hT.below hb);have c0:(W.alloc (.cells #[Q8 lb] 398)).cell? ⟨tb,0,none⟩=some (.pointer (some ⟨nb,0,none⟩)):=by
  rw[((hT.below bL).tree).cell];rfl
 obtain⟨W3,hW3⟩:∃ W3,W3=(W.alloc (.cells #[Q8 lb] 398)).alloc (.cells #[Ug (W.heap.size+1) W.heap.size] 398):=⟨_,rfl⟩;have hb3:Below W.heap.size W W3:=by rw[hW3];exact bL.alloc (by simp) _
 have hst:WalkSt w W3 lb W.heap.size (W.heap.size+1) []:=by
  refine⟨hbW.trans (hb3.mono (by omega)),by rw[hW3];simp,by omega,by omega,?_,?_,Z0,hBl.below hb3 (by omega),rfl,.inl ⟨rfl,rfl⟩⟩
  ·rw[hW3];exact (Blk.new_at (cs:=[Q8 lb]) rfl).alloc _
  ·rw[hW3];exact Blk.new_at (cs:=[Ug (W.heap.size+1) W.heap.size]) (by simp)
 have hT3:=hT.below hb3;have c3:W3.cell? ⟨tb,0,none⟩=some (.pointer (some ⟨nb,0,none⟩)):=hT3.tree.cell 0;have cb3:W3.cell? ⟨W.heap.size+1,0,none⟩=some (Ug (W.heap.size+1) W.heap.size):=hst.cbB.cell 0;have hcall:=iD (fun n=>Zdn id hid lb W.heap.size (W.heap.size+1) w t 0 v ns [] nb Zh 0 true (W3.drewN n) (hst.drewN n) h.root hc (by omega) (by decide) (by simp;omega));unfold Ug Q8 at hW3;unfold Ug at cb3;clear hst hT3 hb3 hc;clear h hW;replace hlb:=iD hlb;replace hsW:=iD hsW;replace hbW:=iD hbW;replace hBl:=iD hBl;replace hT:=iD hT;replace hW3:=iD hW3;unfold Q8 at c0 ⊢;go_enter func287,ntmps287;go_wp2_with fail;refine (hmade.out _ (hTb.out _ bL)).mono ?_;rintro e W2 ⟨rfl,rfl⟩;go_wp2_with fail;rw[<-hW3.out];refine Y7 5 (by kernel_rfl) (by kernel_rfl) ?_;simp only[List.take_succ_cons,List.take_zero,List.drop_succ_cons,lW];repeat (first | go_big_quiet_step (fail))
 refine wpQuiet_nil ?_;rintro _ ⟨nq,rfl⟩;go_wp2_with fail;refine (hcall.out nq).mono ?_;rintro e w4 ⟨rfl,h4⟩;replace h4:=iD h4;go_wp2_with fail;refine bodyPost_end (v:=.tuple #[]) (results_none (by rfl) _ _ _) rfl ⟨rfl,h4.out.below,?_⟩;obtain⟨V,hV,ho⟩:=h4.out.row;have e1:=hsW.out;refine⟨V,hV,Zdm (base:=W.heap.size+1+1) (by omega) ?_⟩;simpa[Uf,Qw] using ho
theorem Z7i(id:Str)(hid:id.length=32)(t:Str)(tb nb mb ab:Nat)(seen:Int)(es us:List (Value × Value))(v:Value)(ns:List Nat)(w:World)(h:TreeAt w tb nb mb ab seen es us v)(hc:Vp w id 0 t v ns)(hl:t.length<=1000000) :
  Calls lA 229 #[.pointer (some ⟨tb,0,none⟩)] w fun e w'=>∃ V,e=.returned V/\w'.ownsRow w.heap.size 330 1 V ns.length (Qw ns)/\Below w.heap.size w w':=by
 have hcall:=iD (Zdo id hid t tb nb mb ab seen es us v ns w (w.alloc (.cells #[Z0] 328)) w.heap.size h hc hl rfl rfl);clear h hc;unfold Q8 at hcall;go_enter func229,ntmps229;go_wp2_with fail;refine hcall.out.mono ?_;rintro e w2 ⟨rfl,hb,V,hV,ho⟩;have cV:w2.cell? ⟨w.heap.size,0,none⟩=some V:=hV.cell 0;replace hb:=iD hb;replace ho:=iD ho;obtain⟨FA,fc,rfl,_,_⟩:=Za ho.out;clear hV;go_wp2_with fail;go_ret;exact⟨_,rfl,ho.out,hb.out⟩
theorem Z3t{w:World}{id:Str}(hid:id.length=32):∀ (t:Str) (k:Nat) (v:Value) (ns:List Nat),Vp w id k t v ns->ns.length=t.length/\∀ (i:Nat) (h:i<t.length),∃ nb,ns[i]?=some nb/\nb<w.heap.size/\w.cell? ⟨nb,34,none⟩=some (B t[i])
 | [],_,_,_,⟨_,h2⟩=>by
  subst h2;exact⟨rfl,fun i h=>absurd h (by simp)⟩
 | c :: t,k,v,ns,⟨a,cap,nb,v',ns',h1,h2,h3,h4,h5⟩=>by
  obtain⟨e1,e2⟩:=Z3t hid t (k+1) v' ns' h4;subst h5;refine⟨by simp[e1],fun i h=>?_⟩;cases i with
  | zero =>
   refine⟨nb,rfl,h3.lt,?_⟩;rw[h3.cell];simp[Yl,Z4,hid]
  | succ i =>
   simpa using e2 i (by simpa using h)
theorem Zdp{w:World}{id:Str}(hid:id.length=32){t:Str}{k:Nat}{v:Value}{ns:List Nat}(h:Vp w id k t v ns)(i:Nat)(hi:i<t.length):∃ nb,(Qw ns)[i]?=some (.pointer (some ⟨nb,0,none⟩))/\nb<w.heap.size/\w.cell? ⟨nb,34,none⟩=some (B t[i]):=by
 obtain⟨nb,h1,h2,h3⟩:=(Z3t hid t k v ns h).2 i hi;exact⟨nb,by simp[Qw,h1],h2,h3⟩
theorem Z1u{t:Str}{m:Nat}(h:m<t.length):t.take (m+1)=t.take m++[t[m]]:=by
 rw[List.take_add_one,lO h];rfl
theorem Z7j(id:Str)(hid:id.length=32)(t:Str)(tb nb mb ab:Nat)(seen:Int)(es us:List (Value × Value))(v:Value)(ns:List Nat)(w:World)(h:TreeAt w tb nb mb ab seen es us v)(hc:Vp w id 0 t v ns)(hl:t.length<=1000000) :
  Calls lA 159 #[.pointer (some ⟨tb,0,none⟩)] w fun e w'=>e=.returned (Z1 t)/\Below w.heap.size w w':=by
 have hcall:=iD (Z7i id hid t tb nb mb ab seen es us v ns w h hc hl);have hnl:ns.length=t.length:=(Z3t hid t 0 v ns hc).1;have hnode:=iD (fun i hi=>Zdp hid hc i hi);replace hnl:=iD hnl;clear h hc;go_enter func159,ntmps159;go_wp2_with fail;refine hcall.out.mono ?_;rintro e w2 ⟨V,rfl,ho,hb⟩;obtain⟨LA,lc,rfl,_,_⟩:=Za ho;have hrd:=iD (K1 ho);rw[hnl.out];have hpl:=iD (show (Qw ns).length=t.length by simp[Qw,hnl.out]);clear ho;replace hb:=iD hb;go_wp2_with fail;go_loopw [3,9] (fun b i wr=>∃ m:Nat,m<=t.length/\i=.int .i64 m/\wr.ownsRow w2.heap.size 5 1 b m ((t.take m).map B)/\Below w2.heap.size w2 wr) (fun _ i _=>t.length - (intOf i).toNat)
 case atStart=>exact⟨0,lI _,rfl,⟨rfl,.inl ⟨rfl,rfl⟩⟩,lD _ _⟩
 case round =>
  obtain⟨m,hm,rfl,hrow,hbr⟩:=hrel;obtain⟨FA,fc,rfl,_,_⟩:=Za hrow;by_cases hlt:m<t.length
  ·obtain⟨nb1,hp,hnb,hcell⟩:=hnode.out m hlt;obtain⟨b,o,rfl,_,hbl,hcells⟩:=hrd.out.at (by rw[hpl.out];omega);have cP:wr.cell? ⟨b,o+m,none⟩=some (.pointer (some ⟨nb1,0,none⟩)):=by rw[hbr.cell (p:=⟨b,o+m,none⟩) hbl];exact hcells m _ hp
   have cB:wr.cell? ⟨nb1,34,none⟩=some (B t[m]):=by
    rw[hbr.cell (p:=⟨nb1,34,none⟩) (lC hnb hb.out.size),hb.out.cell (p:=⟨nb1,34,none⟩) hnb];exact hcell
   have htk:=iD (Z1u hlt);have hln:=iD (show (t.take m).length=m by simp;omega);obtain⟨c,hcc⟩:∃ c,c=t[m]:=⟨_,rfl⟩;obtain⟨zs,hzs⟩:∃ zs,zs=t.take m:=⟨_,rfl⟩;rw[<-hcc] at cB htk;rw[<-hzs] at htk hrow hln;replace hrow:=iD hrow;replace hbr:=iD hbr;have i1:(0:Int)<=(m:Int):=by omega
   have i2:(m:Int)<(t.length:Int):=by omega
   clear hp hcell hcells hcc hzs;go_wp2_with (at_builtin;refine Yt _ rfl (.tmp 13) (.tmp 18) 57 rfl w2.heap.size 5 (B 0) 1 1 underlying57 Kh (.slice FA m fc) m (zs.map B) rfl (hrow.out.alloc _) (fun _=>True) (some ⟨wr.heap.size,0,none⟩) 1 1 [B c] rfl rfl (Rd.of_blk (cs:=[B c]) (r:=[]) (Blk.new_at rfl) rfl trivial) (by simp[lF]) (by unfold maxLen;omega) (by omega) (by have:=hbr.out.size;simp;omega) ?_;intro v4 W4 hrow4 hg4 hv4;replace hrow4:=iD hrow4;replace hg4:=iD hg4;clear hv4;obtain⟨GA,gc,rfl,_,_⟩:=Za hrow4.out;go_frame);go_roundw
   case rel =>
    have hsz:=hbr.out.size;refine⟨m+1,by omega,?_,?_,?_⟩
    ·go_num
    ·have h5:=hrow4.out;rw[htk.out,lM];exact h5
    ·exact (hbr.out.alloc hsz _).trans (Yo (hrow.out.alloc _) hg4.out (by simp;omega))
   case measure=>simp[intOf];omega
  ·have hmt:m=t.length:=by omega
   subst hmt;replace hrow:=iD hrow;have hbr':=iD hbr;have hr3:=K1 hrow.out;rw[lX] at hr3;replace hr3:=iD hr3;clear hbr;go_wp2_with (refine Qf rfl 57 9 (.tmp 21) rfl 5 underlying57 underlying5 underlying9 FA t fc rfl hr3.out ?_;go_frame);go_ret;exact⟨rfl,hb.out.trans (hbr'.out.mono hb.out.size)⟩
end
section
set_option maxRecDepth 100000
set_option maxHeartbeats 4000000
open Go.Lib renaming hid → iD
open Go.Proofs.Tryz
section
section
open Go.RowKit
def Qz(a b:Str):Int:=if Zt a b then -1 else if a=b then 0 else 1
theorem Z7r:∀ (a b:Str),l2 a b=Qz a b
 | [],[]=>rfl
 | [],_ :: _=>rfl
 | _ :: _,[]=>rfl
 | x :: a,y :: b=>by
  have ih:=Z7r a b;unfold Qz at ih ⊢;rw[Z39];unfold l2;by_cases h1:x<y
  ·simp[h1]
  ·by_cases h2:y<x
   ·have : x ≠ y:=fun e=>by subst e;exact h1 h2
    simp[h1,h2,this]
   ·have : x=y:=by
     rw[UInt8.lt_iff_toNat_lt] at h1 h2;exact UInt8.toNat_inj.1 (by omega)
    subst this;simp[h1,ih]
theorem Zeg(a b:Str)(w:World):Calls lA 222 #[.string ⟨a.toArray⟩,.string ⟨b.toArray⟩] w fun e w'=>e=.returned (.int .i64 (Qz a b))/\w=w':=by
 have h:=Tryz.strings_Compare ⟨a.toArray⟩ ⟨b.toArray⟩ w;exact h.mono fun e w' ⟨h1,h2⟩=>⟨by rw[h1,<-Z7r],h2.symm⟩
theorem Zeh(n s:Str)(u:Value)(w:World) :
  Calls lA 296 #[.agg #[Z1 n,u],Z1 s] w fun e w'=>e=.returned (.int .i64 (Qz n s))/\Below w.heap.size w w':=by
 have hc:=iD (Zeg n s);have hB:Blk (w.alloc (.cells #[Z1 n,u] 205)) w.heap.size 205 [Z1 n,u]:=Blk.new_at (cs:=[Z1 n,u]) rfl;have c0:(w.alloc (.cells #[Z1 n,u] 205)).cell? ⟨w.heap.size,0,none⟩=some (.string ⟨n.toArray⟩):=by rw[hB.cell];rfl
 have hb:Below w.heap.size w (w.alloc (.cells #[Z1 n,u] 205)):=bL;clear hB;unfold Z1 at c0 hb ⊢;replace hb:=iD hb;go_enter func296,ntmps296;go_wp2_with ((go_at_call 222;refine (hc.out _).mono ?_;rintro e w' ⟨rfl,rfl⟩));go_ret;exact⟨rfl,hb.out⟩
theorem Z3z{T:Tab}(h:J4 T){i j:Nat}(hij:i<j)(hj:j<T.length):Zt (T[i]'(by omega)).name T[j].name=true:=by
 exact (List.pairwise_iff_getElem.1 h) i j (by omega) hj hij
theorem Z7s(T:Tab)(n:Str):Ye T n<=T.length:=by
 unfold Ye;induction T with
 | nil=>simp
 | cons b r ih =>
  rw[lJ];split
  ·simp only[lP];omega
  ·simp
theorem Z7t:∀ {T:Tab} {n:Str} {p:Nat},p<=T.length->(∀ x (h:x<T.length),x<p->Zt T[x].name n=true)->(∀ h:p<T.length,Zt T[p].name n=false)->Ye T n=p
 | [],_,p,hp,_,_=>by simp at hp;subst hp;rfl
 | b :: r,n,0,_,_,h2=>by
  have:=h2 (by simp);simp only[Ye,lJ];have e:Zt b.name n=false:=by simpa using this
  rw[e];rfl
 | b :: r,n,p+1,hp,h1,h2=>by
  have e:Zt b.name n=true:=by have:=h1 0 (by simp) (by omega);simpa using this
  have ih:Ye r n=p:=Z7t (by simpa using hp) (fun x hx hxp=>by have:=h1 (x+1) (by simpa using hx) (by omega);simpa using this) (fun h=>by have:=h2 (by simpa using h);simpa using this);unfold Ye at ih ⊢;rw[lJ,if_pos e,lP,ih]
def Q9(T:Tab)(n:Str):Bool:=match T[Ye T n]? with | some b=>decide (b.name=n) | none=>false
theorem Zei{a b n:Str}(h:Zt a b=true)(hn:Zt a n=false):Zt b n=false:=by
 cases hb:Zt b n with
 | false=>rfl
 | true=>rw[Z1e _ _ _ h hb] at hn;cases hn
theorem Zej(a b:Str):decide (Qz a b<0)=Zt a b:=by
 unfold Qz;cases Zt a b
 ·simp only[l3,if_false];split <;> rfl
 ·rfl
theorem Zek(a b:Str):(Qz a b == 0)=decide (a=b):=by
 unfold Qz;cases h:Zt a b with
 | true =>
  have:=Zcv h;simp[this]
 | false =>
  simp only[l3,if_false];split
  ·rename_i e;simp[e]
  ·rename_i e;simp[e]
theorem Zel(T:Tab)(v:Value)(s:Str)(ok:Nat->Prop)(w:World)(h:TabIs w ok v T)(hf:T.length<=3518437208832)(hs:J4 T) :
  Calls lA 295 #[v,Z1 s,.func (.func 296) #[] #[]] w fun e w'=>e=.returned (.tuple #[.int .i64 (Ye T s),.bool (Q9 T s)])/\Below w.heap.size w w':=by
 obtain⟨A,c,rfl,hc⟩:=h.form;have hT:=iD h.ltB;replace hs:=iD hs;have hcall:=iD (fun n u W=>Zeh n s u W);clear h hc;unfold Z1;unfold Z1 at hcall;go_enter func295,ntmps295;go_wp2;go_loopw [9,10] (fun i j wr=>∃ a b:Nat,a<=b/\b<=T.length/\i=.int .i64 a/\j=.int .i64 b/\Hid ((∀ x (h:x<T.length),x<a->Zt T[x].name s=true)/\(∀ x (h:x<T.length),b<=x->Zt T[x].name s=false))/\Below w.heap.size w wr) (fun i j _=>(intOf j).toNat - (intOf i).toNat)
 case atStart=>exact⟨0,T.length,lI _,lB _,rfl,rfl,iD ⟨fun x _ hx=>by omega,fun x hx hx2=>by omega⟩,lD _ _⟩
 case round =>
  obtain⟨a,b,hab,hbl,rfl,rfl,hrng,hb⟩:=hrel;by_cases hlt:a<b
  ·obtain⟨m,hm⟩:∃ m,m=(a+b) / 2:=⟨_,rfl⟩;have hm1:a<=m:=by omega
   have hm2:m<b:=by omega
   have hml:m<T.length:=by omega
   obtain⟨g,o,u,rfl,hgl,_,_,c0,c1⟩:=(hT.out.low hb).br m hml;have hcells:=iD (Z00 c0 c1);have hcmp:=Zej T[m].name s;have hlo:Hid (Zt T[m].name s=true->∀ x (h:x<T.length),x<m+1->Zt T[x].name s=true):=iD (fun e x hx hxm=>by
    by_cases he:x=m
    ·subst he;exact e
    ·exact Z1e _ _ _ (Z3z hs.out (show x<m by omega) hml) e)
   have hhi:Hid (Zt T[m].name s=false->∀ x (h:x<T.length),m<=x->Zt T[x].name s=false):=iD (fun e x hx hxm=>by
    by_cases he:x=m
    ·subst he;exact e
    ·exact Zei (Z3z hs.out (show m<x by omega) hx) e)
   have hca:=iD (hcall.out T[m].name u);obtain⟨n,hn⟩:∃ n,n=T[m].name:=⟨_,rfl⟩;rw[<-hn] at hcells hcmp hlo hhi hca;clear hn c0 c1;obtain⟨z,hz⟩:∃ z,z=Qz n s:=⟨_,rfl⟩;obtain⟨t,ht⟩:∃ t,t=Zt n s:=⟨_,rfl⟩;rw[<-hz] at hcmp hca;rw[<-ht] at hcmp hlo hhi;clear hz ht;have e1:IntKind.i64.wrap ((a:Int)+(b:Int))=(a:Int)+(b:Int):=IntWalk.i64_in _ (by omega);have e2:((a:Int)+(b:Int)) / 2=(m:Int):=by omega
   have i1:(0:Int)<=(m:Int):=by omega
   have i2:(m:Int)<(T.length:Int):=by omega
   replace hm:=iD hm;go_wp2_with (first
    | (refine U8 205 (.tmp 27) rfl rfl g (o+m*2) rfl [.string ⟨n.toArray⟩,u] hcells.out _ underlying205 rfl Q2 ?_;go_frame))
   refine (hca.out _).mono ?_;rintro e w2 ⟨rfl,hb2⟩;have hb3:=hb.trans (hb2.mono hb.size);clear hb2;cases t with
   | true =>
    go_wp2;go_roundw
    case rel=>exact⟨m+1,b,by omega,hbl,by go_num,rfl,iD ⟨hlo.out (by simp),hrng.out.2⟩,hb3⟩
    case measure=>simp[intOf];omega
   | false =>
    go_wp2;go_roundw
    case rel=>exact⟨a,m,hm1,by omega,rfl,rfl,iD ⟨hrng.out.1,hhi.out (by simp)⟩,hb3⟩
    case measure=>simp[intOf];omega
  ·obtain rfl:a=b:=by omega
   have hp:Hid (Ye T s=a):=iD (Z7t hbl hrng.out.1 (fun h=>hrng.out.2 a h (lB _)));clear hab;by_cases hin:a<T.length
   ·obtain⟨g,o,u,rfl,hgl,_,_,c0,c1⟩:=(hT.out.low hb).br a hin;have hcells:=iD (Z00 c0 c1);have hcmp:=Zek T[a].name s;have hhit:Hid (Q9 T s=decide (T[a].name=s)):=iD (by unfold Q9;rw[hp.out,lO hin]);have hca:=iD (hcall.out T[a].name u);obtain⟨n,hn⟩:∃ n,n=T[a].name:=⟨_,rfl⟩;rw[<-hn] at hcells hcmp hca hhit;clear hn c0 c1;obtain⟨z,hz⟩:∃ z,z=Qz n s:=⟨_,rfl⟩;obtain⟨t,ht⟩:∃ t,t=decide (n=s):=⟨_,rfl⟩;rw[<-hz] at hcmp hca;rw[<-ht] at hcmp hhit;clear hz ht;have i1:(0:Int)<=(a:Int):=by omega
    have i2:(a:Int)<(T.length:Int):=by omega
    have d1:decide ((a:Int)<(T.length:Int))=true:=by simpa using hin
    go_wp2_with (first
     | (refine U8 205 (.tmp 43) rfl rfl g (o+a*2) rfl [.string ⟨n.toArray⟩,u] hcells.out _ underlying205 rfl Q2 ?_;go_frame))
    refine (hca.out _).mono ?_;rintro e w2 ⟨rfl,hb2⟩;have hb3:=hb.trans (hb2.mono hb.size);clear hb2;go_wp2;go_ret2;exact⟨Z1j (by rw[hp.out];rfl) (by rw[hhit.out];rfl),hb3⟩
   ·have hhit:Hid (Q9 T s=false):=iD (by unfold Q9;rw[hp.out,l4 (by omega)]);have d1:decide ((a:Int)<(T.length:Int))=false:=decide_eq_false (by omega);go_wp2;go_ret2;exact⟨Z1j (by rw[hp.out];rfl) (by rw[hhit.out];rfl),hb⟩
end
section
open Go.RowKit
theorem Zem{T:Tab}{n:Str}:∀ x (h:x<T.length),x<Ye T n->Zt T[x].name n=true:=by
 intro x h hx;unfold Ye at hx;induction T generalizing x with
 | nil=>simp at h
 | cons b r ih =>
  rw[lJ] at hx;split at hx
  ·rename_i hb;cases x with
   | zero=>exact hb
   | succ x=>exact ih x (by simpa using h) (by simpa using hx)
  ·simp at hx
theorem Zen{T:Tab}{n:Str}(h:Ye T n<T.length):Zt T[Ye T n].name n=false:=by
 induction T with
 | nil=>simp at h
 | cons b r ih =>
  by_cases hb:Zt b.name n=true
  ·have e:Ye (b :: r) n=Ye r n+1:=by unfold Ye;rw[lJ,if_pos hb,lP]
   have h':Ye r n<r.length:=by rw[e] at h;simpa using h
   have:=ih h';simpa[e] using this
  ·have e:Ye (b :: r) n=0:=by unfold Ye;rw[lJ,if_neg hb];rfl
   have : Zt b.name n=false:=by simpa using hb
   simpa[e] using this
theorem Zeo{T:Tab}(hs:J4 T)(n:Str):Yb T n=match T[Ye T n]? with | some b=>if b.name=n then b.heads else [] | none=>[]:=by
 have hle:=Z7s T n;have hlt:=@Zem T n;have hno:∀ x (h:x<T.length),x ≠ Ye T n->T[x].name ≠ n:=by
  intro x h hx e;rcases Nat.lt_or_ge x (Ye T n) with h1 | h1
  ·have:=hlt x h h1;rw[e,Z6n] at this;cases this
  ·have hp:Ye T n<T.length:=by omega
   have g1:=Zen hp;have g2:=Z3z hs (show Ye T n<x by omega) h;rw[e] at g2;rw[g1] at g2;cases g2
 unfold Yb;cases hf:T.find? (fun b=>b.name == n) with
 | none =>
  rw[List.find?_eq_none] at hf;cases hp:T[Ye T n]? with
  | none=>rfl
  | some b =>
   have hm:=List.mem_of_getElem? hp;have:=hf b hm;simp only[beq_iff_eq] at this;simp[this]
 | some b =>
  have hm:=l5 hf;have he:b.name=n:=by have:=List.find?_some hf;simpa using this
  obtain⟨x,hx,rfl⟩:=List.mem_iff_getElem.1 hm;have hxp:x=Ye T n:=by
   rcases Nat.decEq x (Ye T n) with h1 | h1
   ·exact absurd he (hno x hx h1)
   ·exact h1
  subst hxp;simp[hx,he]
theorem Z40(T:Tab)(v:Value)(s:Str)(ok:Nat->Prop)(w:World)(h:TabIs w ok v T)(hf:T.length<=3518437208832)(hs:J4 T) :
  Calls lA 242 #[v,Z1 s] w fun e w'=>e=.returned (.tuple #[.int .i64 (Ye T s),.bool (Q9 T s)])/\Below w.heap.size w w':=by
 have hb:=iD (Zel T v s ok w h hf hs);obtain⟨A,c,rfl,hc⟩:=h.form;clear h hs hc;unfold Z1 at hb ⊢;go_enter func242,ntmps242;go_wp2_with fail;refine hb.out.mono ?_;rintro e w' ⟨rfl,hb2⟩;go_wp2;go_ret2;exact⟨rfl,hb2⟩
theorem Z41(T:Tab)(v:Value)(s:Str)(ok:Nat->Prop)(w:World)(h:TabIs w ok v T)(hf:T.length<=3518437208832)(hs:J4 T) :
  ∃ u,Ze w ok u (Yb T s)/\∀ W,Below w.heap.size w W->Calls lA 171 #[v,Z1 s] W fun e w'=>e=.returned u/\Below W.heap.size W w':=by
 have hb:=fun W (hW:Below w.heap.size w W)=>Z40 T v s ok W (h.stayB hW) hf hs;have hg:=Zeo hs s;have hle:=Z7s T s;obtain⟨A,c,rfl,hc⟩:=h.form;clear hs hc;by_cases hp:Ye T s<T.length
 ·obtain⟨b,o,u,rfl,_,hbl,hU,c0,c1⟩:=h.br (Ye T s) hp;rw[lO hp] at hg;have hh:Q9 T s=decide (T[Ye T s].name=s):=by unfold Q9;rw[lO hp]
  by_cases he:T[Ye T s].name=s
  ·rw[decide_eq_true he] at hh;have hg':Hid (Yb T s=T[Ye T s].heads):=iD (by rw[hg];simp[he]);rw[<-hg'.out] at hU;rw[hh] at hb;obtain⟨p,hpp⟩:∃ p,p=Ye T s:=⟨_,rfl⟩;rw[<-hpp] at hb hp c1;obtain⟨UA,uc,rfl,huc,_⟩:=id hU;refine⟨_,hU,fun W hW=>?_⟩;replace hU:=iD hU;replace hb:=iD (hb W hW);have c3:W.cell? ⟨b,o+p*2+1,none⟩=some (.slice UA (Yb T s).length uc):=by rw[hW.cell (p:=⟨b,_,none⟩) hbl];exact c1
   have hbW:b<W.heap.size:=lC hbl hW.size;have i1:(0:Int)<=(p:Int):=by omega
   have i2:(p:Int)<(T.length:Int):=by omega
   clear hg hh he c0 h hle hpp hg' c1 hW;unfold Z1 at hb ⊢;go_enter func171,ntmps171;go_wp2_with fail;refine hb.out.mono ?_;rintro e w' ⟨rfl,hb2⟩;have c2:w'.cell? ⟨b,o+p*2+1,none⟩=some (.slice UA (Yb T s).length uc):=by rw[hb2.cell (p:=⟨b,_,none⟩) hbW];exact c3
   replace hb2:=iD hb2;clear c3;go_wp2;go_ret;exact⟨rfl,hb2.out⟩
  ·rw[decide_eq_false he] at hh;have hg':Yb T s=[]:=by rw[hg];simp[he]
   rw[hh] at hb;refine⟨.slice none 0 0,by rw[hg'];exact Ze.nil,fun W hW=>?_⟩;replace hb:=iD (hb W hW);clear hg hh he c0 c1 h hle hU hg' hW;unfold Z1 at hb ⊢;go_enter func171,ntmps171;go_wp2_with fail;refine hb.out.mono ?_;rintro e w' ⟨rfl,hb2⟩;replace hb2:=iD hb2;go_wp2;go_ret;exact⟨rfl,hb2.out⟩
 ·have hn:T[Ye T s]?=none:=l4 (by omega);have hh:Q9 T s=false:=by unfold Q9;rw[hn]
  rw[hn] at hg;rw[hh] at hb;refine⟨.slice none 0 0,by rw[hg];exact Ze.nil,fun W hW=>?_⟩;replace hb:=iD (hb W hW);clear hh h hle hn hg hW;unfold Z1 at hb ⊢;go_enter func171,ntmps171;go_wp2_with fail;refine hb.out.mono ?_;rintro e w' ⟨rfl,hb2⟩;replace hb2:=iD hb2;go_wp2;go_ret;exact⟨rfl,hb2.out⟩
end
end
section
section
open Go.RowKit
section
variable {P:Program}
theorem Zep(w:World)(ty:TypeId)(g o:Nat)(v:Value)(hagg:(isAgg ty).run P w=.ok false w)(hc:w.cell? ⟨g,o,none⟩=some v):(loadVar ty ⟨g,o,none⟩).run P w=.ok v w:=by
 simp[loadVar,hagg,load,Sem.run,hc]
theorem Z7u{ops:Array Oper}{rest:List Oper}{op:Oper}{a:Act}{C:World->Prop}{Q:Act->Prop}(ty:TypeId)(x:Operand)(ho:op.op=.load ty x)(hw:lQ op (yielded ops a.tmps)=true)
  (g o:Nat) (hx:a.eval x=.pointer (some ⟨g,o,none⟩)) (v:Value) (hc:∀ w,C w->w.cell? ⟨g,o,none⟩=some v) (hagg:∀ w,(isAgg ty).run P w=.ok false w)
  (h:wpQuiet P ops C Q rest (a.put op.dst v)):wpQuiet P ops C Q (op :: rest) a:=by
 refine Z3c _ ho hw _ (fun w hw=>?_) h;unfold execOp;simp only[ho,hx,Instr.loadAt,Instr.sureAddr,Sem.run_bind,Sem.run_pure,Result.andThen_ok,Zep w ty g o v (hagg w) (hc w hw)]
end
theorem Zeq(w:World):(isAgg 9).run lA w=.ok false w:=by kernel_rfl
theorem aggHd(w:World):(isAgg 22).run lA w=.ok false w:=by kernel_rfl
end
section
open Go.RowKit
theorem Zer(a b:Str):(a == b)=decide (a=b):=by
 rw[Bool.eq_iff_iff,beq_iff_eq,decide_eq_true_iff]
attribute [local go_sem] toL
theorem Zes(n m:Str)(x y:Value)(g:Nat)(w:World)(hc:w.cell? ⟨g,0,none⟩=some (Z1 m)) :
  Calls lA 307 #[.agg #[Z1 n,x,y],.pointer (some ⟨g,0,none⟩)] w fun e w'=>e=.returned (.bool (decide (n=m)))/\Below w.heap.size w w':=by
 have hlt:g<w.heap.size:=lV _ _ hc;have hb:Below w.heap.size w (w.alloc (.cells #[Z1 n,x,y] 177)):=bL;have hB:Blk (w.alloc (.cells #[Z1 n,x,y] 177)) w.heap.size 177 [Z1 n,x,y]:=Blk.new_at (cs:=[Z1 n,x,y]) rfl;have c0:(w.alloc (.cells #[Z1 n,x,y] 177)).cell? ⟨w.heap.size,0,none⟩=some (.string ⟨n.toArray⟩):=by rw[hB.cell];rfl
 have c1:(w.alloc (.cells #[Z1 n,x,y] 177)).cell? ⟨g,0,none⟩=some (.string ⟨m.toArray⟩):=by rw[hb.cell (p:=⟨g,0,none⟩) hlt];exact hc
 clear hB hc;unfold Z1 at c0 c1 hb ⊢;replace hb:=iD hb;go_enter func307,ntmps307;go_wp2;go_ret;exact⟨Z04 (Zer n m),hb.out⟩
def IxTo(w:World)(C:List Chg)(m:Str)(e:Ending)(w':World):Prop:=∃ z:Int,e=.returned (.int .i64 z)/\decide (0<=z)=C.any (fun x=>x.name == m)/\Below w.heap.size w w'
theorem Zet(C:List Chg)(v:Value)(m:Str)(g:Nat)(ok:Nat->Prop)(w:World)(h:Yx w ok v C)(hl:C.length<=2199023255552)(hc:w.cell? ⟨g,0,none⟩=some (Z1 m)) :
  Calls lA 341 #[v,.func (.func 307) #[] #[.pointer (some ⟨g,0,none⟩)]] w (IxTo w C m):=by
 obtain⟨A,c,rfl,hcc⟩:=h.form;have hC:=iD h.ltB;have hgl:g<w.heap.size:=lV _ _ hc;have hcall:=iD (fun n x y W=>Zes n m x y g W);replace hc:=iD hc;clear h hcc;go_enter func341,ntmps341;go_wp2;go_loopw [8] (fun i wr=>∃ k:Nat,k<=C.length/\i=.int .i64 k/\Hid ((C.take k).any (fun x=>x.name == m)=false)/\Below w.heap.size w wr) (fun i _=>C.length - (intOf i).toNat)
 case atStart=>exact⟨0,lI _,rfl,iD rfl,lD _ _⟩
 case round =>
  obtain⟨k,hk,rfl,ha,hb⟩:=hrel;by_cases hlt:k<C.length
  ·obtain⟨b,o,x,y,rfl,hbl,_,_,_,hcells⟩:=(hC.out.low hb).ch k hlt;have hmc:wr.cell? ⟨g,0,none⟩=some (Z1 m):=by rw[hb.cell (p:=⟨g,0,none⟩) hgl];exact hc.out
   have hca:=iD (hcall.out C[k].name x y wr hmc);have hyes:Hid (C[k].name=m->C.any (fun x=>x.name == m)=true):=iD (fun e=>by
    rw[List.any_eq_true];exact⟨C[k],l6 hlt,by simp[e]⟩)
   have hno:Hid (C[k].name ≠ m->(C.take (k+1)).any (fun x=>x.name == m)=false):=iD (fun e=>by
    rw[O4 hlt,List.any_append,ha.out];simp[e])
   obtain⟨n,hn⟩:∃ n,n=C[k].name:=⟨_,rfl⟩;rw[<-hn] at hcells hca hyes hno;replace hcells:=iD hcells;clear hn hmc;obtain⟨t,ht⟩:∃ t,t=decide (n=m):=⟨_,rfl⟩;rw[<-ht] at hca;replace ht:=iD ht;have i1:(0:Int)<=(k:Int):=by omega
   have i2:(k:Int)<(C.length:Int):=by omega
   go_wp2_with (first
    | (refine U8 177 (.tmp 14) rfl rfl b (o+k*3) rfl [Z1 n,x,y] hcells.out _ underlying177 rfl U9 ?_;go_frame))
   refine hca.out.mono ?_;rintro e w2 ⟨rfl,hb2⟩;have hb3:=hb.trans (hb2.mono hb.size);clear hb2;cases t with
   | true =>
    have he:Hid (C.any (fun x=>x.name == m)=true):=iD (hyes.out (by simpa using ht.out.symm));go_wp2;go_ret;exact⟨k,rfl,by rw[he.out];simp,hb3⟩
   | false =>
    have he:Hid ((C.take (k+1)).any (fun x=>x.name == m)=false):=iD (hno.out (by simpa using ht.out.symm));go_wp2;go_roundw
    case rel=>exact⟨k+1,by omega,by go_num,he,hb3⟩
    case measure=>simp[intOf];omega
  ·obtain rfl:k=C.length:=by omega
   have he:Hid (C.any (fun x=>x.name == m)=false):=iD (by have:=ha.out;rwa [lX] at this);go_wp2;go_ret;exact⟨-1,rfl,by rw[he.out];rfl,hb⟩
theorem Zeu(C:List Chg)(v:Value)(m:Str)(g:Nat)(ok:Nat->Prop)(w:World)(h:Yx w ok v C)(hl:C.length<=2199023255552)(hc:w.cell? ⟨g,0,none⟩=some (Z1 m)) :
  Calls lA 306 #[v,.func (.func 307) #[] #[.pointer (some ⟨g,0,none⟩)]] w fun e w'=>e=.returned (.bool (C.any (fun x=>x.name == m)))/\Below w.heap.size w w':=by
 have hx:=iD (Zet C v m g ok w h hl hc);obtain⟨A,c,rfl,hcc⟩:=h.form;clear h hc hcc;go_enter func306,ntmps306;go_wp2_with fail;refine hx.out.mono ?_;rintro e w2 ⟨z,rfl,hz,hb2⟩;replace hb2:=iD hb2;obtain⟨t,ht⟩:∃ t,t=C.any (fun x=>x.name == m):=⟨_,rfl⟩;rw[<-ht] at hz;replace ht:=iD ht;go_wp2;go_ret;exact⟨Z04 ht.out,hb2.out⟩
theorem Z21{T:Tab}(hf:TFit T)(n:Str):HFit (Yb T n):=by
 unfold Yb;split
 ·rename_i b hb;exact (hf.ok b (l5 hb)).heads
 ·exact⟨lI _,fun d hd=>by simp at hd⟩
theorem Zev(T:Tab)(C:List Chg)(c:Chg)(v u x y:Value)(ok ok' ok1:Nat->Prop)(w:World)(h:TabIs w ok v T)(hf:TFit T)(hs:J4 T)(h':Yx w ok' u C)(hl:C.length<=2199023255552)
    (hx:Ze w ok1 x c.old) (hy:Ze w ok1 y c.new) (hc:CFit1 c) :
    Calls lA 257 #[v,u,.agg #[Z1 c.name,x,y]] w fun e w'=>e=.returned (.int .i64 (U6 T C c))/\Below w.heap.size w w':=by
  obtain⟨A,tc,rfl,htc⟩:=h.form;obtain⟨A',cc,rfl,hcc⟩:=h'.form;obtain⟨XA,xc,rfl,hxc,_⟩:=id hx;obtain⟨YA,yc,rfl,hyc,_⟩:=id hy;have hnl:c.name.length<=140737488355328:=hc.name;have hol:c.old.length<=4398046511104:=hc.old.len;have hwl:c.new.length<=4398046511104:=hc.new.len;have hlT:=hf.len;have hB:Blk (w.alloc (.cells #[Z1 c.name,.slice XA c.old.length xc,.slice YA c.new.length yc] 177)) w.heap.size 177 [Z1 c.name,.slice XA c.old.length xc,.slice YA c.new.length yc]:=Blk.new_at (cs:=[Z1 c.name,.slice XA c.old.length xc,.slice YA c.new.length yc]) rfl;have hb1:Below w.heap.size w (w.alloc (.cells #[Z1 c.name,.slice XA c.old.length xc,.slice YA c.new.length yc] 177)):=bL;obtain⟨W1,hW1⟩:∃ W1,W1=w.alloc (.cells #[Z1 c.name,.slice XA c.old.length xc,.slice YA c.new.length yc] 177):=⟨_,rfl⟩;rw[<-hW1] at hB hb1;have hT1:=h.stayB hb1;have hC1:=h'.stayB hb1;have hX1:=hx.stayB hb1;have hY1:=hy.stayB hb1;have hnm:=iD (Vr c.name W1 hnl);have hcf:=iD (Zeu C _ c.name w.heap.size ok' W1 hC1 hl (by rw[hB.cell];rfl));have c0:W1.cell? ⟨w.heap.size,0,none⟩=some (.string ⟨c.name.toArray⟩):=by rw[hB.cell];rfl
  have hWE:U6 T C c=if Z6 c.name then (if C.any (fun x=>x.name == c.name) then 6 else if Yp c.new=0 then (if Yb T c.name=c.old then 0 else 12) else Yp c.new) else 11:=rfl;obtain⟨n,hn⟩:∃ n,n=c.name:=⟨_,rfl⟩;obtain⟨a,ha⟩:∃ a,a=Z6 c.name:=⟨_,rfl⟩;obtain⟨b,hb⟩:∃ b,b=C.any (fun x=>x.name == c.name):=⟨_,rfl⟩;rw[<-hb] at hcf hWE;rw[<-ha] at hnm hWE;have hor:=hc.old;have hnw:=hc.new;obtain⟨old,ho⟩:∃ old,old=c.old:=⟨_,rfl⟩;obtain⟨new,hn2⟩:∃ new,new=c.new:=⟨_,rfl⟩;obtain⟨res,hres⟩:∃ res,res=U6 T C c:=⟨_,rfl⟩;rw[<-hres] at hWE ⊢;rw[<-hn,<-ho,<-hn2] at hWE;rw[<-hn] at hnm c0 hnl;rw[<-ho] at hX1 hor hol;rw[<-hn2] at hY1 hnw hwl;rw[<-hn,<-ho,<-hn2] at hB hW1;rw[<-hn,<-ho,<-hn2];clear hres hb ha hn ho hn2 hc h h' hx hy htc hcc;replace hWE:=iD hWE;replace hW1:=iD hW1;have hf':=iD hf;replace hT1:=iD hT1;replace hX1:=iD hX1;replace hY1:=iD hY1;replace hB:=iD hB;replace hs:=iD hs;clear hC1;unfold Z1 at hW1 hnm ⊢;go_enter func257,ntmps257;go_wp2_with fail;rw[<-hW1.out];refine hnm.out.mono ?_;rintro e w2 ⟨rfl,rfl⟩;cases a with
  | false =>
    have hfin:Hid (res=11):=iD (by rw[hWE.out];rfl);go_wp2;go_ret;exact⟨Ua hfin.out.symm,hb1⟩
  | true =>
    replace hWE:Hid (res=if b then 6 else if Yp new=0 then (if Yb T n=old then 0 else 12) else Yp new):=iD (by rw[hWE.out];rfl);go_wp2_with fail;refine hcf.out.mono ?_;rintro e w2 ⟨rfl,hb2⟩;have hbW2:=iD (hb1.trans (hb2.mono hb1.size));cases b with
    | true =>
      have hfin:Hid (res=6):=iD (by rw[hWE.out];rfl);clear hb2;go_wp2;go_ret;exact⟨Ua hfin.out.symm,hbW2.out⟩
    | false =>
      replace hWE:Hid (res=if Yp new=0 then (if Yb T n=old then 0 else 12) else Yp new):=iD (by rw[hWE.out];rfl);have hB2:=hB.out.below hb2 hB.out.lt;have hT2:=iD (hT1.out.stayB hb2);have hX2:=iD (hX1.out.stayB hb2);have hY2:=iD (hY1.out.stayB hb2);have d2:w2.cell? ⟨w.heap.size,2,none⟩=some (.slice YA new.length yc):=by rw[hB2.cell];rfl
      replace hB2:=iD hB2;have hcall:=iD (Z6u new _ ok1 w2 hY2.out hnw);obtain⟨z,hz⟩:∃ z,z=Yp new:=⟨_,rfl⟩;rw[<-hz] at hWE hcall;clear hz hb2 c0 hnm hcf hB hT1 hX1 hY1 hW1;go_wp2_with fail;refine hcall.out.mono ?_;rintro e w3 ⟨rfl,hb3⟩;have hbW3:=iD (hbW2.out.trans (hb3.mono hbW2.out.size));by_cases hz0:z=0
      · subst hz0
        replace hWE:Hid (res=if Yb T n=old then 0 else 12):=iD (hWE.out.trans (if_pos rfl));have hB3:=hB2.out.below hb3 hB2.out.lt;have hT3:=hT2.out.stayB hb3;have hX3:=hX2.out.stayB hb3;obtain⟨su,hsu,hst⟩:=Z41 T _ n ok w3 hT3 hlT hs.out;have d0:∀ s:Xc w3,s.1.cell? ⟨w.heap.size,0,none⟩=some (.string ⟨n.toArray⟩):=fun s=>by rw[(Z66 hB3 s).cell];rfl
        have d1:∀ s:Xc w3,s.1.cell? ⟨w.heap.size,1,none⟩=some (.slice XA old.length xc):=fun s=>by rw[(Z66 hB3 s).cell];rfl
        have heq:=iD (fun s:Xc w3=>Z20 (Yb T n) old su _ ok ok1 s.1 (hsu.stayB s.2) (hX3.stayB s.2) ⟨by
          have:=Z21 hf'.out n;exact this.len,(Z21 hf'.out n).ok⟩ hor)
        have hst':=iD (fun s:Xc w3=>hst s.1 s.2);obtain⟨t,ht⟩:∃ t,t=decide (Yb T n=old):=⟨_,rfl⟩;rw[<-ht] at heq;have hfin:Hid (res=if t then 0 else 12):=iD (by rw[hWE.out,ht];by_cases he:Yb T n=old <;> simp[he]);replace d0:=iD d0;replace d1:=iD d1;obtain⟨SA,sc,rfl,_,_⟩:=id hsu;clear ht hWE hst hsu hb3 hcall d2 hT3 hX3 hB3 hT2 hX2 hY2 hB2;haveI:=Qr w3;go_wp2;refine Kn (by kernel_rfl) (by kernel_rfl) ?_;repeat (first
          | (refine Z7u 9 (.tmp 24) rfl rfl w.heap.size 0 rfl (.string ⟨n.toArray⟩) (fun w hw=>?_) Zeq ?_
             · obtain⟨s,rfl⟩:=hw
               exact d0.out s
             go_frame)
          | (refine Z7u 22 (.tmp 27) rfl rfl w.heap.size 1 rfl (.slice XA old.length xc) (fun w hw=>?_) aggHd ?_
             · obtain⟨s,rfl⟩:=hw
               exact d1.out s
             go_frame)
          | go_big_quiet_step ((first
              | (go_at_call 171;exact Vj _ (hst'.out _))
              | (go_at_call 43;exact Vj _ (heq.out _)))))
        refine wpQuiet_nil ?_;rintro _ ⟨s,rfl⟩;have hb4:=hbW3.out.trans (s.2.mono hbW3.out.size);obtain⟨w4,hw4⟩:=s;dsimp only at hb4 ⊢;clear this hw4 hst' heq d0 d1;cases t with
        | true =>
          replace hfin:Hid (res=0):=iD (by rw[hfin.out];rfl);go_wp2;go_ret;exact⟨Ua hfin.out.symm,hb4⟩
        | false =>
          replace hfin:Hid (res=12):=iD (by rw[hfin.out];rfl);go_wp2;go_ret;exact⟨Ua hfin.out.symm,hb4⟩
      · have g1:(z != 0)=true:=by simpa using hz0
        have hfin:Hid (res=z):=iD (by rw[hWE.out,if_neg hz0]);clear hb3;go_wp2;go_ret;exact⟨Ua hfin.out.symm,hbW3.out⟩
end
end
section
section
open Go.RowKit
def Jx(w:World)(base:Nat)(b:Nat):Prop:=base<=b/\∃ cs,Blk w b 59 cs
theorem Uh:InfoOf lA 59 (.agg Z2.toArray) 32 32:=⟨by kernel_rfl,rfl,by omega⟩
theorem Z7v:InfoOf lA 205 (.agg Q3.toArray) 2 40:=⟨by kernel_rfl,rfl,by omega⟩
theorem Zew{w:World}{base:Nat}{v:Value}{l:List Str}(h:w.ownsRow base 59 32 v l.length (Zv l)):Ze w (Jx w base) v l:=by
 obtain⟨h1,h2⟩:=h;rcases h2 with ⟨rfl,h0⟩ | ⟨g,cap,cur,rfl,hb,hg,hc1,hc2,hc3,ht⟩
 ·have : l=[]:=l7 h0;subst this;exact Ze.nil
 ·have hB:Blk w g 59 cur.toList:=by unfold Blk;simpa using hg
  refine⟨_,cap,rfl,hc1,Rd.of_blk (r:=cur.toList.drop (l.length*32)) hB (by rw[lW,<-ht,l8]) ⟨hb,_,hB⟩⟩
def Zex(w:World)(l:List Str)(e:Ending)(w':World):Prop:=∃ u,e=.returned u/\Ze w' (Jx w' w.heap.size) u l/\Below w.heap.size w w'
theorem Z42(w:World)(T:TypeId)(s:Nat):(w.alloc (.cells #[] T)).ownsRow w.heap.size T s (.slice (some ⟨w.heap.size,0,none⟩) 0 0) 0 []:=by
 refine⟨by simp,.inr ⟨w.heap.size,0,#[],rfl,lB _,heap_alloc_new w _,lB _,lI _,by simp,by simp⟩⟩
theorem Z43(l:List Str)(v:Value)(ok:Nat->Prop)(w:World)(h:Ze w ok v l)(hf:HFit l) :
  Calls lA 100 #[v] w (Zex w l):=by
 obtain⟨A,c,rfl,hc,hr⟩:=h;have hl:=hf.len;have hlen:=iD (Gz hf.ok);have hone:=iD (Z3d l);have hq:=fun w=>Lib.run_eql_slice_nil (P:=lA) w 22 59 A l.length c 0 0 underlying22;cases A with
 | none =>
  have h0:Hid (l=[]):=iD (by
   cases l with
   | nil=>rfl
   | cons d r =>
    obtain⟨ad,e,_⟩:=hr (by rw[hlen.out,lP];omega);cases e)
  clear hr hf;go_enter func100,ntmps100;go_wp2;go_ret;exact⟨_,rfl,by rw[h0.out];exact Ze.nil,lD _ _⟩
 | some ad =>
  have hrd:Hid (Rd (w.alloc (.cells #[] 59)) (fun b=>b<w.heap.size) (some ad) (Zv l)):=iD (hr.stay (fun b _ hlt=>l9 _ _ _ hlt) (fun b _ hlt=>hlt));have hown:=iD (Z42 w 59 32);have hb0:Hid (Below w.heap.size w (w.alloc (.cells #[] 59))):=iD bL;clear hr hf;go_enter func100,ntmps100;go_wp2_with (at_builtin;refine Yt _ rfl (.tmp 5) (.tmp 6) 22 rfl w.heap.size 59 (.agg Z2.toArray) 32 32 underlying22 Uh (.slice (some ⟨w.heap.size,0,none⟩) 0 0) 0 [] rfl hown.out (fun b=>b<w.heap.size) (some ad) l.length c (Zv l) rfl hlen.out hrd.out hone.out (by unfold maxLen;omega) (by omega) (by simp) ?_;intro v' w2 hrow2 hg2 hv2;replace hrow2:=iD hrow2;replace hg2:=iD hg2;obtain⟨VA,vc,rfl,_,_⟩:=Za hrow2.out;go_frame);go_ret;refine⟨_,rfl,Zew (by have:=hrow2.out;simpa using this),?_⟩;exact hb0.out.trans (Yo hown.out hg2.out (by simp))
end
section
open Go.RowKit
theorem Vs{P:Program}(w:World){ops:Array Oper}{o:Oper}{a:Act}{K:Act->World->Prop}{Q:Exit->Act->World->Prop}{E:Prop}(hgd:o.guard=none)(s x:Operand)(t:TypeId)
  (ho:o.op=.call { callee:=.builtin .append,args:=#[s,x],argTypes:=#[t,t] })
  (base:Nat) (e:TypeId) (z:Value) (size bytes:Nat) (ht:P.underlying t=some (.slice e)) (hI:InfoOf P e z size bytes)
  (v:Value) (n:Nat) (xs:List Value) (hs:a.eval s=v) (hown:w.ownsRow base e size v n xs)
  (ok:Nat->Prop) (A:Option Addr) (m c:Nat) (news:List Value) (hx:a.eval x=.slice A m c) (hm:news.length=m*size) (hr:Rd w ok A news) (h1:∀ u ∈ news,u.oneCell'=true)
  (h63:n+m<=maxLen) (hbytes:(n+m)*bytes<=140737488355328) (hbase:base<=w.heap.size)
  (h:∀ v' w',w'.ownsRow base e size v' (n+m) (xs++news)->w.grownBy w' v.ownBlock->(v'.ownBlock=v.ownBlock ∨ v'.ownBlock=some w.heap.size)->K (a.put o.dst v') w') :
  if lQ o (yielded ops a.tmps)=true then Oper.wp P o a w K Q else E:=by
 have hw:lQ o (yielded ops a.tmps)=true:=by simp[lQ,hgd]
 rw[if_pos hw];exact Z5p w s x t ho base e z size bytes ht hI v n xs hs hown ok A m c news hx hm hr h1 h63 hbytes hbase h
section
variable {w w':World} {base base':Nat} {u:Value} {l:List Str}
theorem Ze.keep(h:Ze w (Jx w base) u l)(hk:∀ b cs,base<=b->Blk w b 59 cs->Blk w' b 59 cs):Ze w' (Jx w' base) u l :=
 h.stay (fun b hb _=>by
  obtain⟨h1,cs,h2⟩:=hb;have h3:=hk b cs h1 h2;unfold Blk at h2 h3;rw[h2,h3]) (fun b hb _=>by
  obtain⟨h1,cs,h2⟩:=hb;exact⟨h1,cs,hk b cs h1 h2⟩)
theorem Ze.keepB(h:Ze w (Jx w base) u l)(hb:Below w.heap.size w w'):Ze w' (Jx w' base) u l:=h.keep (fun _ _ _ hB=>hB.below hb hB.lt)
theorem Ze.lower(h:Ze w (Jx w base) u l)(hb:base'<=base):Ze w (Jx w base') u l:=h.stay (fun _ _ _=>rfl) (fun _ ⟨h1,cs,h2⟩ _=>⟨lH hb h1,cs,h2⟩)
theorem Ze.keepRow{v:Value}{n:Nat}{xs:List Value}{T:TypeId}{s:Nat}(h:Ze w (Jx w base) u l)(ho:w.ownsRow base' T s v n xs)(hT:T ≠ 59)(hg:w.grownBy w' v.ownBlock):Ze w' (Jx w' base) u l :=
 h.keep (fun b cs _ hB=>hB.grown hg (fun e=>by
  rcases ho.2 with ⟨rfl,_⟩ | ⟨g',cap,cur,rfl,_,hg',_⟩
  ·cases e
  ·have e':b=g':=by simpa[nA] using e
   subst e';unfold Blk at hB;rw[hg'] at hB
   injection hB with hB
   injection hB with _ ht
   exact hT ht))
end
def Zu(w:World)(base:Nat)(v:Value)(T:Tab):Prop:=∃ vs,vs.length=T.length/\w.ownsRow base 205 2 v T.length (Jf T vs)/\∀ (k:Nat) b u,T[k]?=some b->vs[k]?=some u->Ze w (Jx w base) u b.heads
section
variable {w w':World} {base base':Nat} {v:Value} {T:Tab}
theorem Zu.nil:Zu w base (.slice none 0 0) []:=⟨[],rfl,⟨rfl,.inl ⟨rfl,rfl⟩⟩,fun k b u h _=>by simp at h⟩
theorem Zu.form(h:Zu w base v T):∃ A c,v=.slice A T.length c/\T.length<=c:=by
 obtain⟨vs,_,ho,_⟩:=h;obtain⟨A,c,e,hc,_⟩:=Za ho;exact⟨A,c,e,hc⟩
theorem Zu.keepB(h:Zu w base v T)(hb:Below w.heap.size w w'):Zu w' base v T:=by
 obtain⟨vs,hl,ho,hh⟩:=h;exact⟨vs,hl,Zj (L:=[]) ho (Touch.ofBelow hb) (by simp),fun k b u h1 h2=>(hh k b u h1 h2).keepB hb⟩
theorem Zu.lower(h:Zu w base v T)(hb:base'<=base):Zu w base' v T:=by
 obtain⟨vs,hl,⟨e1,e2⟩,hh⟩:=h;refine⟨vs,hl,⟨e1,?_⟩,fun k b u h1 h2=>(hh k b u h1 h2).lower hb⟩;rcases e2 with e2 | ⟨gx,cap,cur,e3,e4,e5⟩
 ·exact .inl e2
 ·exact .inr ⟨gx,cap,cur,e3,by omega,e5⟩
def TbAt(w:World)(base b:Nat):Prop:=base<=b/\((∃ cs,Blk w b 59 cs) ∨ ∃ cs,Blk w b 205 cs)
theorem Zu.tab(h:Zu w base v T):TabIs w (TbAt w base) v T:=by
 obtain⟨vs,hl,ho,hh⟩:=h;have hh':∀ (k:Nat) b u,T[k]?=some b->vs[k]?=some u->Ze w (TbAt w base) u b.heads:=fun k b u h1 h2=>(hh k b u h1 h2).stay (fun _ _ _=>rfl) (fun b hb _=>⟨hb.1,.inl hb.2⟩);rcases ho.2 with ⟨rfl,h0⟩ | ⟨g,cap,cur,rfl,hb,hg,hc1,hc2,hc3,ht⟩
 ·have : T=[]:=l7 h0;subst this;exact TabIs.nil
 ·have hB:Blk w g 205 cur.toList:=by unfold Blk;simpa using hg
  exact⟨_,cap,vs,hl,rfl,hc1,Rd.of_blk (r:=cur.toList.drop (T.length*2)) hB (by rw[lW,<-ht,l8]) ⟨hb,.inr ⟨_,hB⟩⟩,hh'⟩
end
theorem Zey(T:Tab)(vs:List Value)(hl:vs.length=T.length)(b:Br)(u:Value):Jf (T++[b]) (vs++[u])=Jf T vs++[Z1 b.name,u]:=Z6p T vs hl [b] [u]
theorem Zu.snoc{w':World}{base:Nat}{v':Value}{T:Tab}{vs:List Value}{b:Br}{u:Value}(hl:vs.length=T.length)(hh:∀ (k:Nat) b u,T[k]?=some b->vs[k]?=some u->Ze w' (Jx w' base) u b.heads)
  (hu:Ze w' (Jx w' base) u b.heads) (hrow:w'.ownsRow base 205 2 v' (T.length+1) (Jf T vs++[Z1 b.name,u])):Zu w' base v' (T++[b]):=by
 refine⟨vs++[u],by simp[hl],by rw[Zey T vs hl];simpa using hrow,fun k b' u' h1 h2=>?_⟩;by_cases hk:k<T.length
 ·rw[nB hk] at h1;rw[nB (by omega)] at h2;exact hh k b' u' h1 h2
 ·rw[nC (by omega)] at h1;rw[nC (by omega)] at h2;have hk':k=T.length:=by
   have:=(List.getElem?_eq_some_iff.1 h1).1;simp at this;omega
  subst hk';simp only[nD,nE,lT] at h1;rw[hl] at h2;simp only[nD,nE,lT] at h2;subst h1;subst h2;exact hu
def O5(w:World)(T:Tab)(e:Ending)(w':World):Prop:=∃ v,e=.returned v/\Zu w' w.heap.size v T/\Below w.heap.size w w'
theorem Z7w(T:Tab)(v:Value)(ok:Nat->Prop)(w:World)(h:TabIs w ok v T)(hf:TFit T) :
  Calls lA 188 #[v] w (O5 w T):=by
 obtain⟨A,c,rfl,hc⟩:=h.form;have hT:=iD h.ltB;have hlen:=hf.len;have hok:=iD hf.ok;clear h hf hc;go_enter func188,ntmps188;go_wp2;go_loopw [8,3] (fun i v wr=>∃ k:Nat,k<=T.length/\i=.int .i64 k/\Zu wr w.heap.size v (T.take k)/\Below w.heap.size w wr) (fun i _ _=>T.length - (intOf i).toNat)
 case atStart=>exact⟨0,lI _,rfl,Zu.nil,lD _ _⟩
 case round =>
  obtain⟨k,hk,rfl,hO,hb⟩:=hrel;by_cases hlt:k<T.length
  ·obtain⟨b,o,u,rfl,hbl,_,hU,c0,c1⟩:=(hT.out.low hb).br k hlt;have hbf:=hok.out T[k] (l6 hlt);have htk:Hid (T.take (k+1)=T.take k++[T[k]]):=iD (O4 hlt);have hkl:(T.take k).length=k:=by rw[List.length_take];omega
   obtain⟨br,hbr⟩:∃ br,br=T[k]:=⟨_,rfl⟩;rw[<-hbr] at hU c0 hbf htk;obtain⟨P,hP⟩:∃ P,P=T.take k:=⟨_,rfl⟩;rw[<-hP] at hO htk hkl;clear hbr hP;have hhf:=hbf.heads;have hhl:=hbf.heads.len;have hnl:=hbf.name;obtain⟨n,hs⟩:=br;dsimp only at hU c0 hhf hhl hnl;obtain⟨UA,uc,rfl,huc,_⟩:=id hU;have hcells:=iD (Z00 c0 c1);obtain⟨hX1,hbx1⟩:=Z1y wr 205 Q3 [Z1 n,.slice UA hs.length uc];obtain⟨W1,hW1⟩:∃ W1,W1=(wr.alloc (.cells Q3.toArray 205)).setRow wr.heap.size [Z1 n,.slice UA hs.length uc].toArray:=⟨_,rfl⟩;rw[<-hW1] at hX1 hbx1;replace hW1:=iD hW1;have hone:Hid (∀ v ∈ [Z1 n,lG UA hs.length uc],v.oneCell'=true):=iD (by simp[Z1,lF]);have hU1:=hU.low (hbx1.mono hb.size);have hO1:=hO.keepB hbx1;have hbW:=hb.trans (hbx1.mono hb.size);have d0:W1.cell? ⟨wr.heap.size,0,none⟩=some (.string ⟨n.toArray⟩):=by rw[hX1.cell];rfl
   have d1:W1.cell? ⟨wr.heap.size,1,none⟩=some (.slice UA hs.length uc):=by rw[hX1.cell];rfl
   have hgl:wr.heap.size<W1.heap.size:=hX1.lt;have i1:(0:Int)<=(k:Int):=by omega
   have i2:(k:Int)<(T.length:Int):=by omega
   obtain⟨vs,hvl,hrow,hheads⟩:=hO1;obtain⟨FA,fc,rfl,_,_⟩:=Za hrow;have hne:∀ b,(lG FA P.length fc).ownBlock=some b->b<wr.heap.size:=by
    obtain⟨_,_,ho,_⟩:=hO;exact fun b hb=>(ho.lt b hb).2
   rw[hkl] at hne;rw[hkl] at hrow ⊢;replace hrow:=iD hrow;replace hheads:=iD hheads;replace hU1:=iD hU1;replace hbW:=iD hbW;replace hkl:=iD hkl;replace hvl:=iD hvl;clear c0 c1 hU hO hb hbx1 hX1 hbf;go_wp2_with (first
    | (refine U8 205 (.tmp 10) rfl rfl b (o+k*2) rfl [Z1 n,.slice UA hs.length uc] hcells.out _ underlying205 rfl Q2 ?_;go_frame)
    | (refine Zd rfl 205 (.tmp 5) (.tmp 11) rfl wr.heap.size [Z1 n,.slice UA hs.length uc] rfl rfl 205 Q3 (Blk.new_at rfl) rfl Q2 hone.out ?_;rw[show (wr.alloc (lL #[lY ⟨#[]⟩,lG none 0 0] 205)).setRow wr.heap.size [Z1 n,.slice UA hs.length uc].toArray=W1 from hW1.out.symm];go_frame))
   have hO1:Hid (∀ W,Below W1.heap.size W1 W->W.ownsRow w.heap.size 205 2 (.slice FA k fc) k (Jf P vs)/\(∀ (k:Nat) b u,P[k]?=some b->vs[k]?=some u->Ze W (Jx W w.heap.size) u b.heads)/\Ze W (· < w.heap.size) (.slice UA hs.length uc) hs/\Below w.heap.size w W/\W.cell? ⟨wr.heap.size,0,none⟩=some (.string ⟨n.toArray⟩)/\W.cell? ⟨wr.heap.size,1,none⟩=some (.slice UA hs.length uc)):=iD (fun W hW =>
    ⟨Zj (L:=[]) hrow.out (Touch.ofBelow hW) (by simp),fun k b u h1 h2=>(hheads.out k b u h1 h2).keepB hW,hU1.out.stayB hW,hbW.out.trans (hW.mono hbW.out.size),(by rw[hW.cell (p:=⟨wr.heap.size,0,none⟩) hgl];exact d0),(by rw[hW.cell (p:=⟨wr.heap.size,1,none⟩) hgl];exact d1)⟩)
   have hS4:Hid (∀ W o W4,Below W1.heap.size W1 W->(W.alloc o).grownBy W4 (lG FA k fc).ownBlock->W4.cell? ⟨wr.heap.size,0,none⟩=some (.string ⟨n.toArray⟩)/\W4.cell? ⟨wr.heap.size,1,none⟩=some (.slice UA hs.length uc)):=iD (fun W o W4 hW hg=>by
    have hlt:wr.heap.size<W.heap.size:=lC hgl hW.size;have hblk:W4.heap[wr.heap.size]?=W.heap[wr.heap.size]?:=(hg.block _ (by simp;omega) (fun e=>by have:=hne _ e.symm;omega)).trans (l9 W o _ hlt);have e0:W4.cell? ⟨wr.heap.size,0,none⟩=W.cell? ⟨wr.heap.size,0,none⟩:=nF hblk;have e1:W4.cell? ⟨wr.heap.size,1,none⟩=W.cell? ⟨wr.heap.size,1,none⟩:=nF hblk;rw[e0,e1];exact (hO1.out W hW).2.2.2.2)
   clear hne;have hsz1:=hbW.out.size;have hbd:Below W1.heap.size W1 W1.drew:=(lD _ _).drew;clear hW1;go_region_held3 (fun w'=>w'.cell? ⟨wr.heap.size,0,none⟩=some (.string ⟨n.toArray⟩)/\w'.cell? ⟨wr.heap.size,1,none⟩=some (.slice UA hs.length uc)) (first | exact hS4.out _ _ _ hb3.out hg4.out | exact (hO1.out _ hb3.out).2.2.2.2 | go_keep)
    (first
     | (go_at_call 100;(with_reducible refine (Z43 hs _ _ W1.drew (hO1.out _ hbd).2.2.1 hhf).mono ?_);rintro e W3 ⟨cu,rfl,hcu,hb3'⟩;have hb3:=iD (hbd.trans hb3');clear hb3';obtain⟨CA,cc,rfl,hcc1,hcc2⟩:=id hcu;replace hcu:=iD hcu)
     | (refine Vs _ rfl (.tmp 12) (.tmp 19) 92 rfl w.heap.size 205 (.agg Q3.toArray) 2 40 underlying92 Z7v (.slice FA k fc) k (Jf P vs) rfl ((hO1.out _ hb3.out).1.alloc _) (fun _=>True) (some ⟨W3.heap.size,0,none⟩) 1 1 [.string ⟨n.toArray⟩,.slice CA hs.length cc] rfl rfl (Rd.of_blk (cs:=[.string ⟨n.toArray⟩,.slice CA hs.length cc]) (r:=[]) (Blk.new_at rfl) rfl trivial) (by simp[lF]) (by unfold maxLen;omega) (by omega) (by have:=hb3.out.size;simp;omega) ?_;intro v' W4 hrow4 hg4 hv4;replace hrow4:=iD hrow4;replace hg4:=iD hg4;obtain⟨VA,vc,rfl,_,_⟩:=Za hrow4.out))
   have hO3:=iD (hO1.out _ hb3.out);clear hO1 hS4 hcc2 hbd;go_wp2;go_roundw
   case rel =>
    obtain⟨r3,h3,_,bw3,_⟩:=hO3.out;have hba:Below W3.heap.size W3 (W3.alloc (lL #[lY ⟨n.toArray⟩,lG CA hs.length cc] 205)):=bL;have hro:=r3.alloc (lL #[lY ⟨n.toArray⟩,lG CA hs.length cc] 205);refine⟨k+1,by omega,by go_num,?_,?_⟩
    ·rw[htk.out];refine Zu.snoc (b:=⟨n,hs⟩) (vs:=vs) hvl.out (fun k b u h1 h2=>((h3 k b u h1 h2).keepB hba).keepRow hro (by decide) hg4.out) (((hcu.out.lower hsz1).keepB hba).keepRow hro (by decide) hg4.out) ?_;rw[hkl.out];exact hrow4.out
    ·exact bw3.trans ((hba.mono bw3.size).trans (Yo hro hg4.out (by have:=bw3.size;simp;omega)))
   case measure=>simp[intOf];omega
  ·obtain rfl:k=T.length:=by omega
   rw[lX] at hO;obtain⟨FA,fc,rfl,_⟩:=hO.form;replace hO:=iD hO;go_wp2;go_ret;exact⟨_,rfl,hO.out,hb⟩
end
end
section
section
open Go.RowKit
section
variable {P:Program} (w:World)
theorem Z7x(t elem:TypeId)(s:Nat)(hu:P.underlying t=some (.slice elem))(hs:(P.info? elem).map (·.size)=some s)(A:Option Addr)(n cap k j m:Nat)(hk:k<=j)(hj:j<=m)(hm:m<=cap) :
  (lR t (.slice A n cap) (some (.int .i64 (k:Int))) (some (.int .i64 (j:Int))) (some (.int .i64 (m:Int)))).run P w=.ok (.slice (cutA A m k s) (j - k) (m - k)) w:=by
 cases hq:P.info? elem with
 | none=>simp[hq] at hs
 | some i =>
  have hi:i.size=s:=by simpa[hq] using hs
  simp[lR,nG,run_underlying hu,nH,run_sliceBound,sizeOf,typeInfo,hq,hi,hk,hj,hm,cutA]
theorem Z44(t elem:TypeId)(s:Nat)(hu:P.underlying t=some (.slice elem))(hs:(P.info? elem).map (·.size)=some s)(A:Option Addr)(n cap j:Nat)(hj:j<=cap) :
  (lR t (.slice A n cap) none (some (.int .i64 (j:Int))) none).run P w=.ok (.slice A j cap) w:=by
 cases hq:P.info? elem with
 | none=>simp[hq] at hs
 | some i =>
  have ha:∀ a:Addr,a.add 0=a:=fun a=>by unfold Addr.add;simp
  cases A <;> simp[lR,nG,run_underlying hu,nH,run_sliceBound,sizeOf,typeInfo,hq,hj,ha]
end
def Z7y(w:World)(base:Nat)(v:Value)(n:Nat)(xs:List Value)(e:Ending)(w':World):Prop :=
 ∃ v',e=.returned v'/\w'.ownsRow base 205 2 v' n xs/\w.grownBy w' v.ownBlock/\(v'.ownBlock=v.ownBlock ∨ ∀ b,v'.ownBlock=some b->w.heap.size<=b)
theorem Z7z{w:World}{g:Nat}(c:Array Value):w.grownBy (w.setRow g c) (some g):=⟨rfl,rfl,rfl,by simp[World.setRow],fun k _ hne=>setRow_other _ _ _ _ (fun e=>hne (by rw[e]))⟩
theorem Zez{w w1 w2:World}{r:Option Nat}(h1:w.grownBy w1 r)(h2:w1.grownBy w2 r):w.grownBy w2 r :=
 ⟨h2.os.trans h1.os,h2.tape.trans h1.tape,h2.output.trans h1.output,lH h1.size h2.size,fun k hk hne=>(h2.block k (lC hk h1.size) hne).trans (h1.block k hk hne)⟩
end
section
open Go.RowKit
section
variable {α:Type}
end
theorem Zf0(base:Nat)(v:Value)(n:Nat)(xs:List Value)(gx:Nat)(a b:Value)(w:World)(ho:w.ownsRow base 205 2 v n xs)(hn:n<=2199023255552)
  (hx:Blk w gx 205 [a,b]) (ha:a.oneCell'=true) (hb:b.oneCell'=true) (hbase:base<=w.heap.size) :
  Calls lA 259 #[v,.int .i64 n,.slice (some ⟨gx,0,none⟩) 1 1] w (Z7y w base v (n+1) (xs++[a,b])):=by
 obtain⟨A,cap,rfl,hc1,hc2⟩:=Za ho;have hs1:=fun w=>Z12 (P:=lA) w 92 205 2 underlying92 Q2 A n cap n (by omega);have hrd:Hid (Rd w (fun _=>True) (some ⟨gx,0,none⟩) [a,b]):=iD (Rd.of_blk (r:=[]) hx rfl trivial);have hone:Hid (∀ u ∈ [a,b],u.oneCell'=true):=iD (by simp[ha,hb]);have hnb:(n+1)*40<=140737488355328:=by omega
 replace ho:=iD ho;clear hx ha hb;go_enter func259,ntmps259;go_wp2_with (at_builtin;refine Yt _ rfl (.tmp 23) (.tmp 24) 92 rfl base 205 (.agg Q3.toArray) 2 40 underlying92 Z7v (.slice A n cap) n xs rfl ho.out (fun _=>True) (some ⟨gx,0,none⟩) 1 1 [a,b] rfl rfl hrd.out hone.out (by unfold maxLen;omega) (by omega) hbase ?_;intro v' w2 hrow2 hg2 hv2;replace hrow2:=iD hrow2;replace hg2:=iD hg2;obtain⟨VA,vc,rfl,_,_⟩:=Za hrow2.out;go_frame);go_ret;refine⟨.slice VA (n+1) vc,rfl,hrow2.out,hg2.out,?_⟩;rcases hv2 with h | h
 ·exact .inl h
 ·exact .inr (fun k hk=>by rw[h] at hk;injection hk with hk;omega)
end
section
open Go.RowKit
end
end
section
section
open Go.RowKit
end
section
open Go.RowKit
def Z22:List Value:=[.string ⟨#[]⟩,.slice none 0 0,.slice none 0 0]
def Z45(w:World)(T:Tab)(C:List Chg)(e:Ending)(w':World):Prop:=∃ v,e=.returned (.tuple #[v,.int .i64 (U7 T C)])/\Zu w' w.heap.size v (Ke T C)/\Below w.heap.size w w'
end
section
open Go.RowKit
end
end
end
section
set_option maxRecDepth 100000
set_option maxHeartbeats 1000000
open Go.Lib renaming hid → iD
open Go.Proofs.Tryz
open Go.RowKit
def Xl(w w':World):Prop:=∀ g t cs,Blk w g t cs->t ≠ 5->Blk w' g t cs
theorem Xl.trans{a b c:World}(h:Xl a b)(k:Xl b c):Xl a c:=fun g t cs hB hn=>k g t cs (h g t cs hB hn) hn
theorem Xl.below{w w':World}(h:Below w.heap.size w w'):Xl w w':=fun _ _ _ hB _=>hB.below h hB.lt
theorem Xl.grown{w w':World}{base n:Nat}{v:Value}{xs:List Value}(ho:w.ownsRow base 5 1 v n xs)(h:w.grownBy w' v.ownBlock):Xl w w':=fun g t cs hB hne=>hB.grown h (fun he=>by
 rcases ho.2 with ⟨rfl,_⟩ | ⟨g',cap,cur,rfl,_,hg,_⟩
 ·cases he
 ·have e':g=g':=by
   simp[nA] at he;exact he
  subst e';have h1:=hB.symm.trans hg
  injection h1 with h1
  injection h1 with _ h2
  exact hne h2)
def Z86(w:World)(base:Nat)(xs:Str)(e:Ending)(w':World):Prop:=∃ V,e=.returned V/\w'.ownsRow base 5 1 V xs.length (xs.map B)/\Below base w w'/\Xl w w'
theorem Z07(n:Nat)(v:Value)(xs:Str)(base:Nat)(w:World)(hn:n<=4611686018427387904)(ho:w.ownsRow base 5 1 v xs.length (xs.map B))(hbase:base<=w.heap.size)(hx:xs.length<=1099511627776) :
  Calls lA 181 #[v,.int .i64 n] w (Z86 w base (xs++Z3 n)):=by
 obtain⟨FA,fc,rfl,_,_⟩:=Za ho;have hnum:=iD (Z7f n w hn);have hpl:=Kf 9 n (by omega);replace ho:=iD ho;go_enter func181,ntmps181;go_wp2_with fail;refine hnum.out.mono ?_;rintro e W ⟨V,rfl,hV,hb⟩;obtain⟨GA,gc,rfl,_,_⟩:=Za hV;have hO:=iD (Zj ho.out (Touch.ofBelow (L:=[]) hb) (fun _ _ hm=>by cases hm));have hR:=iD (K1 hV);replace hb:=iD hb;have hbs:=hb.out.size;clear hV;go_wp2_with (at_builtin;refine Yt _ rfl (.tmp 12) (.tmp 13) 57 rfl base 5 (B 0) 1 1 underlying57 Kh (.slice FA xs.length fc) xs.length (xs.map B) rfl hO.out _ GA (Z3 n).length gc ((Z3 n).map B) rfl (by simp) hR.out (by simp[lF]) (by unfold maxLen;omega) (by omega) (by omega) ?_;intro v4 W4 hrow4 hg4 hv4;replace hrow4:=iD hrow4;replace hg4:=iD hg4;clear hv4;obtain⟨VA,vc,rfl,_,_⟩:=Za hrow4.out;go_frame);go_ret;refine⟨_,rfl,?_,(hb.out.mono hbase).trans (Yo hO.out hg4.out (by omega)),(Xl.below hb.out).trans (Xl.grown hO.out hg4.out)⟩;have:=hrow4.out;simpa using this
end
end Go.Proofs.YtefjlobdifjogaaGreatDoor
