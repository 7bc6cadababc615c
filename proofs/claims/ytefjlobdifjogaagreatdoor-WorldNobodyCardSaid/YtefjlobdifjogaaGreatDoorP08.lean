import Derived.Test.YtefjlobdifjogaaGreatDoorP01
import Derived.Deep.DeepMust
open BitVec renaming ofInt → lL
open Go renaming wpQuiet_nil → lC, below_drewN → lM, zero_of_info → lV
open Go.Instr renaming index → l2
open Go.Proofs.Tryz renaming prog → lB
open Go.Value renaming oneCell' → lN
open Go.World renaming block_lt_of_cell? → lY
open Int renaming natCast_add → lP
open List renaming replicate → lA, length_take → lD, length_map → lE, take_succ_cons → lF, take_zero → lG, drop_succ_cons → lH, drop_zero → lJ, append_assoc → lK, length_append → lO, set_append_right → lQ, drop_append_of_le_length → lR, take_append_of_le_length → lS, take_of_length_le → lT, map_append → lU, getElem?_append_right → lW, getElem?_append_left → lX, map_take → lZ, map_drop → l0, getElem?_drop → l1
open Nat renaming le_refl → lI
namespace Go.Proofs.YtefjlobdifjogaaGreatDoor
section
set_option maxHeartbeats 400000
open Go.Proofs.Tryz
open Go.RowKit
theorem Zg0{k:IntKind}{a b:Int}(h:a=b):Ending.returned (.int k a)=.returned (.int k b):=by rw[h]
theorem Zg1(x:UInt32)(k:Nat) :
  bits .or .u32 ((wv x) / 2 ^ k) ((wv x)*2 ^ (32 - k) % 4294967296)=(wv (Kc x k)):=by
 rw[Ol,Z14,w_or,Kc]
theorem Zg2(x y:Int):bits .or .u32 x y=bits .or .u32 y x:=by
 show IntKind.u32.wrap ((lL 32 x ||| lL 32 y).toNat:Int)=IntKind.u32.wrap ((lL 32 y ||| lL 32 x).toNat:Int);rw[BitVec.or_comm]
theorem neg31(k:Nat)(hk:0<k)(hk2:k<32):bits .and .u64 (IntKind.u64.wrap (-(k:Int))) 31=((32 - k:Nat):Int):=by
 have : ∀ k:Fin 32,0<k.1->bits .and .u64 (IntKind.u64.wrap (-(k.1:Int))) 31=((32 - k.1:Nat):Int):=by decide
 exact this ⟨k,hk2⟩ hk
theorem Zg3(x:UInt32)(k:Nat)(w:World)(hk:0<k)(hk2:k<32) :
  Calls lB 286 #[.int .u32 (wv x),.int .i64 (-(k:Int))] w fun e w'=>e=.returned (.int .u32 (wv (Kc x k)))/\w=w':=by
 have hn:=neg31 k hk hk2;go_enter func286,ntmps286;go_wp2;go_ret;exact⟨Zg0 (by rw[Zg2,show 32 - (32 - k)=k by omega,Zg1]),rfl⟩
theorem Zg4(x:UInt32)(k:Nat)(w:World)(hk:0<k)(hk2:k<32) :
  Calls lB 227 #[.int .u32 (wv x),.int .i64 (k:Int)] w fun e w'=>e=.returned (.int .u32 (wv (Kc x k)))/\w=w':=by
 go_enter func227,ntmps227;go_wp2_with (go_at_call 286;refine (Zg3 x k _ hk hk2).mono ?_;rintro e w' ⟨rfl,rfl⟩);go_ret;exact⟨rfl,rfl⟩
theorem Z4g(x:UInt32)(n:Int)(w:World)(hk:0<n)(hk2:n<32) :
  Calls lB 227 #[.int .u32 (wv x),.int .i64 n] w fun e w'=>e=.returned (.int .u32 (wv (Kc x n.toNat)))/\w=w':=by
 have:=Zg4 x n.toNat w (by omega) (by omega)
 rwa [show ((n.toNat:Nat):Int)=n by omega] at this
end
section
set_option maxRecDepth 100000
set_option maxHeartbeats 4000000
open Go.Lib renaming hid → iD
open Go.Proofs.Tryz
open Go.RowKit
def Zm(w:World):Prop:=∀ i,i<64->w.cell? ⟨0,i,none⟩=some (W (Uj.getD i 0))
def Vu(ws:List UInt32):List Value:=ws.map W++lA (64 - ws.length) (W 0)
def Z0d:List Value:=lA 8 (W 0)
def Zg5:List Value:=lA 64 (W 0)
def M1(s:St)(ws:List UInt32)(w wr:World):Prop :=
 Blk wr w.heap.size 219 s.cells/\Blk wr (w.heap.size+1) 219 Z0d/\Blk wr (w.heap.size+1+1) 324 (Vu ws) /\
 Below w.heap.size w wr/\wr.heap.size=w.heap.size+3
theorem Zg6(ws:List UInt32)(x:UInt32)(h:ws.length<64):(Vu ws).set ws.length (W x)=Vu (ws++[x]):=by
 unfold Vu;obtain⟨m,hm⟩:∃ m,64 - ws.length=m+1:=⟨63 - ws.length,by omega⟩;have hm2:64 - (ws.length+1)=m:=by omega
 rw[lQ _ _ (by simp)];simp[hm,hm2,List.replicate_succ]
theorem Z8i(ws:List UInt32)(h:ws.length<64):(Vu ws)[ws.length]?=some (W 0):=by
 unfold Vu;rw[lW (by simp)];rw[lE,Nat.sub_self,List.getElem?_replicate,if_pos (by omega)]
theorem Z0e(ws:List UInt32)(i:Nat)(h:i<ws.length):(Vu ws)[i]?=some (W (ws.getD i 0)):=by
 unfold Vu;rw[lX (by simpa using h)];simp[h]
theorem Z8j{s:St}{ws:List UInt32}{w wr:World}(h:M1 s ws w wr)(x:UInt32)(hl:ws.length<64)(nq:Nat) :
  M1 s (ws++[x]) w ((wr.drewN nq).setCell ⟨w.heap.size+1+1,ws.length,none⟩ (W x)):=by
 obtain⟨h1,h2,h3,h4,h5⟩:=h;refine⟨(h1.drewN nq).far (by simp;omega) _,(h2.drewN nq).far (by simp) _,?_,?_,by simpa using h5⟩
 ·have:=(h3.drewN nq).set_ ws.length (W x);rw[Zg6 ws x hl] at this;exact this
 ·exact (lM h4 nq).setCell (by simp;omega) _
theorem Zg7{s:St}{ws:List UInt32}{w wr:World}(h:M1 s ws w wr)(nq:Nat):M1 s ws w (wr.drewN nq):=by
 obtain⟨h1,h2,h3,h4,h5⟩:=h;exact⟨h1.drewN nq,h2.drewN nq,h3.drewN nq,lM h4 nq,h5⟩
theorem Zg8(s:St)(w:World):M1 s [] w (((w.alloc (.cells s.cells.toArray 219)).alloc (.cells Z0d.toArray 219)).alloc (.cells Zg5.toArray 324)):=by
 refine⟨?_,?_,?_,?_,?_⟩
 ·exact ((Blk.new_at rfl).alloc _).alloc _
 ·exact (Blk.new_at (by simp)).alloc _
 ·exact Blk.new_at (by simp)
 ·exact (bL.alloc (by simp) _).alloc (by simp;omega) _
 ·simp
def M3(s:St)(ws:List UInt32)(v:St)(w wr:World):Prop :=
 Blk wr w.heap.size 219 s.cells/\Blk wr (w.heap.size+1) 219 Z0d/\Blk wr (w.heap.size+1+1) 324 (Vu ws) /\
 Blk wr (w.heap.size+3) 219 v.cells/\Below w.heap.size w wr/\wr.heap.size=w.heap.size+4
theorem Z28{s:St}{ws:List UInt32}{v:St}{w wr:World}(h:M3 s ws v w wr)(nq:Nat):M3 s ws v w (wr.drewN nq):=by
 obtain⟨h1,h2,h3,h4,h5,h6⟩:=h;exact⟨h1.drewN nq,h2.drewN nq,h3.drewN nq,h4.drewN nq,lM h5 nq,h6⟩
theorem Z29{s:St}{ws:List UInt32}{v:St}{w wr:World}(h:M3 s ws v w wr) :
  wr.cell? ⟨w.heap.size+3,0,none⟩=some (W v.a)/\wr.cell? ⟨w.heap.size+3,1,none⟩=some (W v.b)/\wr.cell? ⟨w.heap.size+3,2,none⟩=some (W v.c)/\wr.cell? ⟨w.heap.size+3,3,none⟩=some (W v.d) /\
  wr.cell? ⟨w.heap.size+3,4,none⟩=some (W v.e)/\wr.cell? ⟨w.heap.size+3,5,none⟩=some (W v.f)/\wr.cell? ⟨w.heap.size+3,6,none⟩=some (W v.g)/\wr.cell? ⟨w.heap.size+3,7,none⟩=some (W v.h):=by
 obtain⟨h1,h2,h3,h4,h5,h6⟩:=h;refine⟨?_,?_,?_,?_,?_,?_,?_,?_⟩ <;> rw[h4.cell] <;> rfl
theorem Z8k{s:St}{ws:List UInt32}{v:St}{w wr:World}(h:M3 s ws v w wr)(i:Nat):wr.frozen? ⟨w.heap.size+3,i,none⟩=false:=h.2.2.2.1.frozen i
theorem Zg9{s:St}{ws:List UInt32}{v:St}{w wr:World}(h:M3 s ws v w wr)(k:Nat)(hk:k<ws.length):wr.cell? ⟨w.heap.size+1+1,k,none⟩=some (W (ws.getD k 0)):=by
 rw[h.2.2.1.cell];exact Z0e _ _ hk
theorem Zga{s:St}{ws:List UInt32}{w wr:World}(h:M1 s ws w wr) :
  wr.cell? ⟨w.heap.size,0,none⟩=some (W s.a)/\wr.cell? ⟨w.heap.size,1,none⟩=some (W s.b)/\wr.cell? ⟨w.heap.size,2,none⟩=some (W s.c)/\wr.cell? ⟨w.heap.size,3,none⟩=some (W s.d) /\
  wr.cell? ⟨w.heap.size,4,none⟩=some (W s.e)/\wr.cell? ⟨w.heap.size,5,none⟩=some (W s.f)/\wr.cell? ⟨w.heap.size,6,none⟩=some (W s.g)/\wr.cell? ⟨w.heap.size,7,none⟩=some (W s.h):=by
 refine⟨?_,?_,?_,?_,?_,?_,?_,?_⟩ <;> rw[h.1.cell] <;> rfl
theorem Zgb{s:St}{ws:List UInt32}{w wr:World}(h:M1 s ws w wr):M3 s ws s w (wr.alloc (.cells s.cells.toArray 219)):=by
 obtain⟨h1,h2,h3,h4,h5⟩:=h;exact⟨h1.alloc _,h2.alloc _,h3.alloc _,Blk.new_at h5.symm,h4.alloc (by omega) _,by simp[h5]⟩
theorem Zgc{s:St}{ws:List UInt32}{v:St}{w wr:World}(h:M3 s ws v w wr) :
  M3 s ws ⟨v.a,v.a,v.b,v.c,v.d,v.e,v.f,v.g⟩ w (wr.setRow (w.heap.size+3) (splice v.cells 1 [W v.a,W v.b,W v.c,W v.d,W v.e,W v.f,W v.g]).toArray):=by
 obtain⟨h1,h2,h3,h4,h5,h6⟩:=h;exact⟨h1.setRow_far (by omega) _,h2.setRow_far (by omega) _,h3.setRow_far (by omega) _,h4.setRow_same _,below_setRow h5 (by omega) _,by simpa using h6⟩
theorem Z8l{s:St}{ws:List UInt32}{v v':St}{w wr:World}(h:M3 s ws v w wr)(i:Nat)(u:Value)(hv:v.cells.set i u=v'.cells):M3 s ws v' w (wr.setCell ⟨w.heap.size+3,i,none⟩ u):=by
 obtain⟨h1,h2,h3,h4,h5,h6⟩:=h;have h4':=h4.set_ i u;rw[hv] at h4';exact⟨h1.far (by simp) _,h2.far (by simp) _,h3.far (by simp) _,h4',h5.setCell (by simp) _,by simpa using h6⟩
theorem Zgd{s:St}{ws:List UInt32}{v:St}{w wr:World}(h:M3 s ws v w wr)(hK:Zm w)(i:Nat)(hi:i<64):wr.cell? ⟨0,i,none⟩=some (W (Uj.getD i 0)):=by
 have:=hK i hi;rw[h.2.2.2.2.1.cell (p:=⟨_,_,none⟩) (lY _ _ this)];exact this
def Uk(vl sl:List UInt32):Nat->List UInt32
 | 0=>vl
 | n+1=>(Uk vl sl n).set n ((Uk vl sl n).getD n 0+sl.getD n 0)
theorem Zge(vl sl:List UInt32)(n:Nat):(Uk vl sl n).length=vl.length:=by
 induction n with
 | zero=>rfl
 | succ n ih=>simp[Uk,ih]
theorem Zgf(v s:St):Uk v.list s.list 8=(addS v s).list:=rfl
def M4(s:St)(vl:List UInt32)(w wr:World):Prop :=
 Blk wr w.heap.size 219 s.cells/\Blk wr (w.heap.size+1) 219 Z0d /\
 Blk wr (w.heap.size+3) 219 (vl.map W)/\Below w.heap.size w wr
theorem m4_of{s:St}{ws:List UInt32}{v:St}{w wr:World}(h:M3 s ws v w wr):M4 s v.list w wr:=⟨h.1,h.2.1,h.2.2.2.1,h.2.2.2.2.1⟩
theorem Zgg{s:St}{vl:List UInt32}{w wr:World}(h:M4 s vl w wr)(nq k:Nat)(x:UInt32):M4 s (vl.set k x) w ((wr.drewN nq).setCell ⟨w.heap.size+3,k,none⟩ (W x)):=by
 obtain⟨h1,h2,h3,h4⟩:=h;have h3':=(h3.drewN nq).set_ k (W x);rw[<-List.map_set] at h3';exact⟨(h1.drewN nq).far (by simp) _,(h2.drewN nq).far (by simp) _,h3',(lM h4 nq).setCell (by simp) _⟩
theorem Z8m(vl:List UInt32)(k:Nat)(h:k<vl.length):(vl.map W)[k]?=some (W (vl.getD k 0)):=by simp[h]
theorem Z4h(vl:List UInt32):∀ v ∈ vl.map W,v.oneCell'=true:=by simp[lN]
theorem Z4i{P:Program}{f:FuncId}{args:Array Value}{w:World}{v:Value}
  (h:Calls P f args w fun e w'=>e=.returned v/\w=w') {n:Nat} {w0:World} (hw:w=w0.drewN n):Calls P f args w fun e w''=>e=.returned v/\∃ m,w''=w0.drewN m :=
 h.mono fun _ _ ⟨he,hm⟩=>⟨he,n,by rw[<-hm,hw]⟩
attribute [local go_sem] w_or Z5s w_and Z5t Zc0 Z32 Zc5 shl_8 Zc7 Zc8 shr_3 Zc9
theorem Zgh(s:St)(bb off cap:Nat)(blk:List UInt8)(w:World)(hbb:bb<w.heap.size)
  (hcells:∀ i,i<64->w.cell? ⟨bb,off+i,none⟩=some (B (blk.getD i 0))) (hK:Zm w) :
  Calls lB 148 #[.agg s.cells.toArray,.slice (some ⟨bb,off,none⟩) 64 cap] w fun e w' =>
   e=.returned (.agg (Vt s blk).cells.toArray)/\Below w.heap.size w w':=by
 have HC:=iD hcells;clear hcells;go_enter func148,ntmps148;go_wp2;go_loopw [17] (fun i wr=>∃ k:Nat,k<=16/\i=.int .i64 k/\M1 s (Xe blk k) w wr) (fun i _=>16 - (intOf i).toNat)
 case atStart=>exact⟨0,by omega,rfl,Zg8 s w⟩
 case round =>
  obtain⟨k,hk,rfl,hM⟩:=hrel;by_cases hlt:k<16
  ·as_aux_lemma =>
    have hc0:wr.cell? ⟨bb,off+4*k,none⟩=some (B (blk.getD (4*k) 0)):=by rw[hM.2.2.2.1.cell (p:=⟨bb,_,none⟩) hbb];exact HC.out _ (by omega)
    have hc1:wr.cell? ⟨bb,off+(4*k+1),none⟩=some (B (blk.getD (4*k+1) 0)):=by rw[hM.2.2.2.1.cell (p:=⟨bb,_,none⟩) hbb];exact HC.out _ (by omega)
    have hc2:wr.cell? ⟨bb,off+(4*k+2),none⟩=some (B (blk.getD (4*k+2) 0)):=by rw[hM.2.2.2.1.cell (p:=⟨bb,_,none⟩) hbb];exact HC.out _ (by omega)
    have hc3:wr.cell? ⟨bb,off+(4*k+3),none⟩=some (B (blk.getD (4*k+3) 0)):=by rw[hM.2.2.2.1.cell (p:=⟨bb,_,none⟩) hbb];exact HC.out _ (by omega)
    go_wp2;refine Y7 35 (by kernel_rfl) (by kernel_rfl) ?_;simp only[lF,lG,lH,lJ];repeat (go_big_quiet_step (fail))
    refine lC ?_;rintro _ ⟨nq,rfl⟩;have hs0:wr.cell? ⟨w.heap.size+1+1,k,none⟩=some (W 0):=by
     rw[hM.2.2.1.cell];have:=Z8i (Xe blk k) (by rw[G9];omega);rwa [G9] at this
    have hf0:wr.frozen? ⟨w.heap.size+1+1,k,none⟩=false:=hM.2.2.1.frozen _;go_wp2;go_roundw
    case rel =>
     refine⟨k+1,by omega,by go_num,?_⟩;rw[Zfy blk k hlt];have:=Z8j hM (Z4e blk k) (by rw[G9];omega) nq;rw[G9] at this;exact this
    case measure=>simp[intOf];omega
  ·as_aux_lemma =>
    obtain⟨k1,hk1⟩:∃ k1,k1=k:=⟨_,rfl⟩;rw[<-hk1] at hM hlt hk ⊢;have hk16:k1=16:=by omega
    rw[hk16] at hM;have hge:16<=k1:=by omega
    clear hk16 hk1;obtain⟨w1,rfl⟩:∃ w1:World,w1=wr:=⟨_,rfl⟩;go_wp2;go_loopw [7] (fun i wr=>∃ k:Nat,16<=k/\k<=64/\i=.int .i64 k/\M1 s (Xe blk k) w wr) (fun i _=>64 - (intOf i).toNat)
    case atStart=>exact⟨16,by omega,by omega,rfl,hM⟩
    case round =>
     clear hM;obtain⟨k,hk16,hk,rfl,hM⟩:=hrel;by_cases hlt:k<64
     ·as_aux_lemma =>
       have hl:=iD (G9 blk k);have hc1:wr.cell? ⟨w.heap.size+1+1,k - 15,none⟩=some (W ((Xe blk k).getD (k - 15) 0)):=by rw[hM.2.2.1.cell];exact Z0e _ _ (by rw[hl.out];omega)
       have hc3:wr.cell? ⟨w.heap.size+1+1,k - 2,none⟩=some (W ((Xe blk k).getD (k - 2) 0)):=by rw[hM.2.2.1.cell];exact Z0e _ _ (by rw[hl.out];omega)
       go_wp2;go_quiet (fail);replace hM:=Zg7 hM nq;clear hc1 hc3;generalize wr.drewN nq=wr at hM ⊢;have hc0:wr.cell? ⟨w.heap.size+1+1,k - 16,none⟩=some (W ((Xe blk k).getD (k - 16) 0)):=by rw[hM.2.2.1.cell];exact Z0e _ _ (by rw[hl.out];omega)
       have hc2:wr.cell? ⟨w.heap.size+1+1,k - 7,none⟩=some (W ((Xe blk k).getD (k - 7) 0)):=by rw[hM.2.2.1.cell];exact Z0e _ _ (by rw[hl.out];omega)
       have hs0:wr.cell? ⟨w.heap.size+1+1,k,none⟩=some (W 0):=by
        rw[hM.2.2.1.cell];have:=Z8i (Xe blk k) (by rw[hl.out];omega);rwa [hl.out] at this
       have hf0:wr.frozen? ⟨w.heap.size+1+1,k,none⟩=false:=hM.2.2.1.frozen _;go_wp2;refine Y7 29 (by kernel_rfl) (by kernel_rfl) ?_;simp only[lF,lG,lH,lJ];repeat (go_big_quiet_step ((go_at_call 227;exact Z4i (Z4g _ _ _ (by decide) (by decide)) rfl)))
       refine lC ?_;rintro _ ⟨nq,rfl⟩;go_wp2;go_roundw
       case rel =>
        refine⟨k+1,by omega,by omega,by go_num,?_⟩;rw[Zfz blk k hk16];have:=Z8j hM (Z4f (Xe blk k) k) (by rw[hl.out];omega) nq;rw[hl.out] at this;exact this
       case measure=>simp[intOf];omega
     ·as_aux_lemma =>
       obtain⟨k2,hk2⟩:∃ k2,k2=k:=⟨_,rfl⟩;rw[<-hk2] at hM hlt hk ⊢;have hk64:k2=64:=by omega
       rw[hk64] at hM;have hge2:64<=k2:=by omega
       clear hk64 hk2;obtain⟨w2,rfl⟩:∃ w2:World,w2=wr:=⟨_,rfl⟩;have hz:=iD hM.2.2.2.2;obtain⟨c0,c1,c2,c3,c4,c5,c6,c7⟩:=Zga hM;go_wp2;rw[hz.out];clear c0 c1 c2 c3 c4 c5 c6 c7;go_loopw [98] (fun i wr=>∃ k:Nat,k<=64/\i=.int .i64 k/\M3 s (Xe blk 64) (Ga (Xe blk 64) s k) w wr) (fun i _=>64 - (intOf i).toNat)
       case atStart=>exact⟨0,by omega,rfl,Zgb hM⟩
       case round =>
        clear hM;obtain⟨k,hk,rfl,hM⟩:=hrel;by_cases hlt:k<64
        ·as_aux_lemma =>
          obtain⟨v,hv⟩:∃ v,v=Ga (Xe blk 64) s k:=⟨_,rfl⟩;rw[<-hv] at hM;replace hv:=iD hv;obtain⟨c0,c1,c2,c3,c4,c5,c6,c7⟩:=Z29 hM;go_wp2;go_quiet (fail);replace hM:=Z28 hM nq;clear c0 c1 c2 c3 c4 c5 c6 c7;generalize wr.drewN nq=wr at hM ⊢;obtain⟨c0,c1,c2,c3,c4,c5,c6,c7⟩:=Z29 hM;have hrow:=Zg9 hM k (by rw[G9];exact hlt);have hkey:=Zgd hM hK k hlt;go_wp2;go_quiet ((go_at_call 227;exact Z4i (Z4g _ _ _ (by decide) (by decide)) rfl));replace hM:=Z28 hM nq;clear c0 c1 c2 c3 c4 c5 c6 c7 hrow hkey;generalize wr.drewN nq=wr at hM ⊢;obtain⟨c0,c1,c2,c3,c4,c5,c6,c7⟩:=Z29 hM;go_wp2;go_quiet ((go_at_call 227;exact Z4i (Z4g _ _ _ (by decide) (by decide)) rfl));replace hM:=Z28 hM nq;clear c0 c1 c2 c3 c4 c5 c6 c7;generalize wr.drewN nq=wr at hM ⊢;go_wp2;refine Y7 2 (by kernel_rfl) (by kernel_rfl) ?_;simp only[lF,lG,lH,lJ];repeat (go_big_quiet_step (fail))
          refine lC ?_;rintro _ ⟨nq,rfl⟩;replace hM:=Z28 hM nq;generalize wr.drewN nq=wr at hM ⊢;refine Z5k rfl (.tmp 159) (.tmp 160) 326 326 rfl 217 underlying326 (by kernel_rfl) (w.heap.size+3) 1 7 7 ⟨w.heap.size+3,0,none⟩ 7 8 rfl rfl v.cells 219 hM.2.2.2.1
           [W v.a,W v.b,W v.c,W v.d,W v.e,W v.f,W v.g] rfl (Z0y hM.2.2.2.1 0 _ [W v.h] rfl) (lI 8) (by simp[lN]) ?_
          replace hM:=Zgc hM;generalize wr.setRow _ _=wr at hM ⊢;obtain⟨c0,c1,c2,c3,c4,c5,c6,c7⟩:=Z29 hM;have f0:=Z8k hM 0;have f4:=Z8k hM 4;go_wp2;go_roundw
          case rel =>
           refine⟨k+1,by omega,by go_num,?_⟩;have e:Ga (Xe blk 64) s (k+1)=rnd (Uj.getD k 0) ((Xe blk 64).getD k 0) v:=by rw[hv.out];rfl
           rw[e,Zc1,w_sum5'];exact Z8l (v:=⟨v.a,v.a,v.b,v.c,v.d+tOf (Uj.getD k 0) ((Xe blk 64).getD k 0) v,v.e,v.f,v.g⟩) (Z8l hM 4 _ rfl) 0 _ rfl
          case measure=>simp[intOf];omega
        ·as_aux_lemma =>
          obtain⟨k3,hk3⟩:∃ k3,k3=k:=⟨_,rfl⟩;rw[<-hk3] at hM hlt hk ⊢;have hk64:k3=64:=by omega
          rw[hk64] at hM;have hge3:64<=k3:=by omega
          clear hk64 hk3;obtain⟨w3,rfl⟩:∃ w3:World,w3=wr:=⟨_,rfl⟩;replace hM:=m4_of hM;obtain⟨v,hv⟩:∃ v,v=Ga (Xe blk 64) s 64:=⟨_,rfl⟩;rw[<-hv] at hM;replace hv:=iD hv;go_wp2;go_loopw [172] (fun i wr=>∃ k:Nat,k<=8/\i=.int .i64 k/\M4 s (Uk v.list s.list k) w wr) (fun i _=>8 - (intOf i).toNat)
          case atStart=>exact⟨0,by omega,rfl,hM⟩
          case round =>
           clear hM;obtain⟨k,hk,rfl,hM⟩:=hrel;by_cases hlt:k<8
           ·as_aux_lemma =>
             have hc0:wr.cell? ⟨w.heap.size+3,k,none⟩=some (W ((Uk v.list s.list k).getD k 0)):=by rw[hM.2.2.1.cell];exact Z8m _ _ (by rw[Zge];exact hlt)
             have hc1:wr.cell? ⟨w.heap.size,k,none⟩=some (W (s.list.getD k 0)):=by rw[hM.1.cell];exact Z8m s.list _ hlt
             have hf0:=hM.2.2.1.frozen k;go_wp2;refine Y7 8 (by kernel_rfl) (by kernel_rfl) ?_;simp only[lF,lG,lH,lJ];repeat (go_big_quiet_step (fail))
             refine lC ?_;rintro _ ⟨nq,rfl⟩;go_wp2;go_roundw
             case rel =>
              refine⟨k+1,by omega,by go_num,?_⟩;exact Zgg hM nq k _
             case measure=>simp[intOf];omega
           ·as_aux_lemma =>
             obtain rfl:k=8:=by omega
             have hz:Uk v.list s.list 8=(Vt s blk).list:=by rw[hv.out];exact Zgf _ _
             obtain⟨mm,hmm⟩:∃ mm,mm=Vt s blk:=⟨_,rfl⟩;rw[hz,<-hmm] at hM;replace hmm:=iD hmm;replace hz:=iD hz;go_wp2_with (first
              | (refine Zy rfl 219 (.tmp 10) rfl (w.heap.size+3) rfl 219 (mm.list.map W) hM.2.2.1 (.array 8 217) underlying219 rfl (by kernel_rfl) ?_)
              | (refine Zd rfl 219 (.tmp 4) (.tmp 184) rfl (w.heap.size+1) (mm.list.map W) rfl rfl 219 Z0d hM.2.1 rfl (by kernel_rfl) (Z4h _) ?_))
             refine Qe Tryz.results148 (w.heap.size+1) 219 (mm.list.map W) (.array 8 217) rfl (hM.2.1.setRow_same _) underlying219 rfl (by kernel_rfl) rfl ?_;exact⟨by rw[hmm.out];rfl,below_setRow hM.2.2.2 (by omega) _⟩
end
section
set_option maxHeartbeats 400000
set_option maxRecDepth 100000
open Go.Proofs.Tryz
open Go.RowKit
def Yi(made:Bool)(s:St)(rest:List UInt8)(n:Nat):List Value:=.bool made :: (s.cells++(rest.map B++[.int .i64 (n:Int)]))
theorem Zgi(w:World) :
  Calls lB 147 #[] w fun e w'=>e=.returned (.agg st0.cells.toArray)/\Below w.heap.size w w':=by
 go_enter func147,ntmps147;go_wp2;refine bodyPost_ret (v:=.agg st0.cells.toArray) (by simp[results,Tryz.results147,go_sem];rfl) rfl ⟨rfl,bL⟩
theorem Zgj(w:World) :
  Calls lB 65 #[] w fun e w'=>∃ g,e=.returned (.pointer (some ⟨g,0,none⟩))/\w.heap.size<=g/\Blk w' g 223 (Yi true st0 (lA 64 0) 0)/\Below w.heap.size w w':=by
 go_enter func65,ntmps65;go_wp2_with (first
  | (go_at_call 147;refine (Zgi _).mono ?_;rintro e w1 ⟨rfl,hb1⟩)
  | (refine Y2 (.build 223 #[(0,.const (.bool true)),(1,.tmp 1)]) rfl rfl (.agg (Yi true st0 (lA 64 0) 0).toArray) (by kernel_rfl) ?_))
 go_ret;exact⟨_,rfl,hb1.size,Blk.new_at rfl,hb1.alloc hb1.size _⟩
end
section
open Go.RowKit
def Ka(msg:List UInt8):Nat->St
 | 0=>st0
 | k+1=>Vt (Ka msg k) ((msg.drop (64*k)).take 64)
theorem Z8n(msg more:List UInt8)(k:Nat)(h:64*k<=msg.length):Ka (msg++more) k=Ka msg k:=by
 induction k with
 | zero=>rfl
 | succ k ih =>
  have h1:64*k<=msg.length:=by omega
  rw[Ka,Ka,ih h1]
  congr 1
  rw[lR h1,lS (by simp;omega)]
def Vb(w:World)(g:Nat)(msg:List UInt8):Prop :=
 ∃ rest:List UInt8,rest.length=64/\rest.take (msg.length % 64)=msg.drop (64*(msg.length / 64)) /\
  Blk w g 223 (Yi true (Ka msg (msg.length / 64)) rest msg.length)
theorem Zgk{w:World}{g:Nat}(h:Blk w g 223 (Yi true st0 (lA 64 0) 0)):Vb w g [] :=
 ⟨lA 64 0,by simp,by simp,h⟩
theorem Z8o(msg piece rest:List UInt8)(hr:rest.length=64)(ht:rest.take (msg.length % 64)=msg.drop (64*(msg.length / 64))) :
  (splice rest (msg.length % 64) piece).take (msg.length % 64+piece.length)=(msg++piece).drop (64*(msg.length / 64)):=by
 have h1:64*(msg.length / 64)<=msg.length:=by omega
 rw[lR h1,<-ht];unfold splice;rw[<-lK,lS (by simp;omega)];exact lT (by simp;omega)
theorem Gb(rest piece:List UInt8)(o:Nat)(hr:rest.length=64)(hp:o+piece.length<=64):(splice rest o piece).length=64:=by
 rw[length_splice _ _ _ (by omega)];exact hr
theorem Zgl(made:Bool)(s:St)(rest piece:List UInt8)(n o:Nat)(hr:rest.length=64)(hp:o+piece.length<=64) :
  splice (Yi made s rest n) (9+o) (piece.map B)=Yi made s (splice rest o piece) n:=by
 unfold Yi;have hs:s.cells.length=8:=rfl;have e:∀ X:List Value,splice (.bool made :: (s.cells++X)) (9+o) (piece.map B)=.bool made :: (s.cells++splice X o (piece.map B)):=by
  intro X;unfold splice;rw[show 9+o=(8+o)+1 by omega,lF,<-hs,List.take_length_add_append,List.cons_append,lK]
  congr 3
  rw[show s.cells.length+o+1+(piece.map B).length=(s.cells.length+(o+(piece.map B).length))+1 by omega,lH,List.drop_length_add_append]
 rw[e]
 congr 2
 unfold splice;rw[lS (by simp;omega),lU,lU,lZ,lK,lK,lR (by simp;omega),lE,l0]
theorem Z8p(made:Bool)(s:St)(rest:List UInt8)(n m:Nat)(hr:rest.length=64):(Yi made s rest n).set 73 (.int .i64 (m:Int))=Yi made s rest m:=by
 unfold Yi;have hs:s.cells.length=8:=rfl;rw[List.set_cons_succ,lQ _ _ (by omega),lQ _ _ (by simp;omega)];simp[hr,hs]
theorem Zgm(made:Bool)(s s':St)(rest:List UInt8)(n:Nat):splice (Yi made s rest n) 1 s'.cells=Yi made s' rest n:=rfl
theorem Z4j(made:Bool)(s:St)(rest:List UInt8)(n:Nat)(hr:rest.length=64):(Yi made s rest n).length=74:=by
 have hs:s.cells.length=8:=rfl;simp[Yi,hr,hs]
theorem Z8q(made:Bool)(s:St)(rest:List UInt8)(n:Nat):(Yi made s rest n).drop 9=rest.map B++[.int .i64 (n:Int)]:=rfl
theorem Z4k(made:Bool)(s:St)(rest:List UInt8)(n:Nat)(hr:rest.length=64):(Yi made s rest n)[73]?=some (.int .i64 (n:Int)):=by
 have : (Yi made s rest n)[73]?=((Yi made s rest n).drop 9)[64]?:=by rw[l1]
 rw[this,Z8q,lW (by simp;omega)];simp[hr]
theorem Zgn{w:World}{g:Nat}{m piece rest:List UInt8}(hr:rest.length=64)(ht:rest.take (m.length % 64)=m.drop (64*(m.length / 64)))(hp:m.length % 64+piece.length<64)
  (hB:Blk w g 223 (Yi true (Ka m (m.length / 64)) (splice rest (m.length % 64) piece) (m.length+piece.length))):Vb w g (m++piece):=by
 have e1:(m++piece).length=m.length+piece.length:=lO;have e2:(m.length+piece.length) % 64=m.length % 64+piece.length:=by omega
 have e3:(m.length+piece.length) / 64=m.length / 64:=by omega
 refine⟨splice rest (m.length % 64) piece,Gb _ _ _ hr (by omega),?_,?_⟩
 ·rw[e1,e2,e3];exact Z8o m piece rest hr ht
 ·rw[e1,e3,Z8n _ _ _ (by omega)];exact hB
theorem Zgo{w:World}{g:Nat}{m piece rest:List UInt8}(hr:rest.length=64)(ht:rest.take (m.length % 64)=m.drop (64*(m.length / 64)))(hp:m.length % 64+piece.length=64)
  (hB:Blk w g 223 (Yi true (Vt (Ka m (m.length / 64)) (splice rest (m.length % 64) piece)) (splice rest (m.length % 64) piece) (m.length+piece.length))):Vb w g (m++piece):=by
 have e1:(m++piece).length=m.length+piece.length:=lO;have e2:(m.length+piece.length) % 64=0:=by omega
 have e3:(m.length+piece.length) / 64=m.length / 64+1:=by omega
 have hs:=Z8o m piece rest hr ht;have hl:=Gb rest piece (m.length % 64) hr (by omega);rw[hp,lT (by omega)] at hs;refine⟨splice rest (m.length % 64) piece,hl,?_,?_⟩
 ·rw[e1,e2,e3];rw[lG,List.drop_of_length_le (by rw[e1];omega)]
 ·rw[e1,e3,Ka,Z8n _ _ _ (by omega),<-hs,lT (by omega)];exact hB
end
section
set_option maxRecDepth 100000
set_option maxHeartbeats 1000000
open Go.Lib renaming hid → iD
open Go.Proofs.Tryz
open Go.RowKit
def lenOf:Value->Nat | .slice _ n _=>n | _=>0
theorem Zgp{w:World}{g:Nat}{msg:List UInt8}(hK:Zm w)(hH:Vb w g msg):g ≠ 0:=by
 rintro rfl;obtain⟨r,_,_,h3⟩:=hH;have h1:=hK 0 (by omega);rw[h3.cell] at h1;simp[Yi] at h1
theorem Zgq{w w':World}{g:Nat}(hK:Zm w)(hg:g ≠ 0)(h:w.grownBy w' (some g)):Zm w':=fun i hi =>
 h.cell (hK i hi) (by simp;exact fun e=>hg e.symm)
theorem Z8r(w:World)(n g:Nat)(c:Array Value):w.grownBy ((w.drewN n).setRow g c) (some g) :=
 ⟨rfl,rfl,rfl,by simp,fun k _ hne=>setRow_other _ _ _ _ (fun e=>hne (by rw[e]))⟩
def WRel(w:World)(g:Nat)(msg xs:List UInt8)(b:Value)(wr:World):Prop :=
 ∃ (done cap:Nat) (A:Option Addr),done<=xs.length/\b=.slice A (xs.length - done) cap/\xs.length - done<=cap/\Rd wr (· ≠ g) A ((xs.drop done).map B)/\Vb wr g (msg++xs.take done)/\w.grownBy wr (some g)
theorem Zgr{w w':World}{g:Nat}{A:Option Addr}{xs:List Value}(h:Rd w (· ≠ g) A xs)(hg:w.grownBy w' (some g)):Rd w' (· ≠ g) A xs:=fun hn=>by
 obtain⟨ad,e,hb,hc⟩:=h hn;refine⟨ad,e,hb,fun j u hu=>hg.cell (hc j u hu) ?_⟩;rw[Z10];simpa using hb
theorem O8{w w1 w2:World}{g:Nat}(h1:w.grownBy w1 (some g))(h2:w1.grownBy w2 (some g)):w.grownBy w2 (some g) :=
 ⟨h2.os.trans h1.os,h2.tape.trans h1.tape,h2.output.trans h1.output,Nat.le_trans h1.size h2.size,fun k hk hne=>(h2.block k (Nat.lt_of_lt_of_le hk h1.size) hne).trans (h1.block k hk hne)⟩
theorem Z8s(w:World)(g i:Nat)(u:Value):w.grownBy (w.setCell ⟨g,i,none⟩ u) (some g) :=
 ⟨rfl,rfl,rfl,by simp,fun _ _ hne=>Below.heap_setCell _ _ _ _ (fun e=>hne (by rw[e]))⟩
theorem Zgs(w:World)(g n:Nat):w.grownBy (w.drewN n) (some g):=⟨rfl,rfl,rfl,lI _,fun _ _ _=>rfl⟩
theorem Z8t{w:World}{g:Nat}{msg xs:List UInt8}{done cap:Nat}{A:Option Addr}{wr W:World}{k:Nat}(hd:done+k<=xs.length)(hc:xs.length - done<=cap)
  (hR:Rd wr (· ≠ g) A ((xs.drop done).map B)) (hG:w.grownBy wr (some g)) (hG2:wr.grownBy W (some g)) (hH:Vb W g ((msg++xs.take done)++(xs.drop done).take k)) :
  WRel w g msg xs (.slice (cutA A cap k 1) (xs.length - done - k) (cap - k)) W:=by
 refine⟨done+k,cap - k,cutA A cap k 1,hd,by rw[Nat.sub_sub],by omega,?_,?_,O8 hG hG2⟩
 ·have:=Zgr (hR.cutA (k:=k) (cap:=cap) (by simpa using hc)) hG2
  rwa [<- l0,List.drop_drop] at this
 ·rw[List.take_add,<-lK];exact hH
theorem Z8u(g:Nat)(msg xs:List UInt8)(A:Option Addr)(cap:Nat)(w:World)(hH:Vb w g msg)(hA:Rd w (· ≠ g) A (xs.map B))(hcap:xs.length<=cap)
    (hn:msg.length+xs.length<=4611686018427387904) (hK:Zm w) :
    Calls lB 66 #[.pointer (some ⟨g,0,none⟩),.slice A xs.length cap] w fun e w' =>
      e=.returned (.tuple #[])/\Vb w' g (msg++xs)/\w.grownBy w' (some g):=by
  have hne:=Zgp hK hH;have hc0:w.cell? ⟨g,0,none⟩=some (.bool true):=by
    obtain⟨r,_,_,h3⟩:=hH;rw[h3.cell];rfl
  go_enter func66,ntmps66;go_wp2;clear hc0;go_loopw [1] (fun b wr=>WRel w g msg xs b wr) (fun b _=>lenOf b)
  case atStart=>exact⟨0,cap,A,by omega,rfl,by omega,hA,by simpa using hH,World.grownBy.refl w _⟩
  case round =>
    obtain⟨done,cap',A',hd,rfl,hc',hR,hI,hG⟩:=hrel;by_cases hlt:done<xs.length
    · obtain⟨m,hm⟩:∃ m,m=msg++xs.take done:=⟨_,rfl⟩
      obtain⟨ys,hys⟩:∃ ys,ys=xs.drop done:=⟨_,rfl⟩;have hyl:ys.length=xs.length - done:=by rw[hys,List.length_drop]
      have hmn:m.length+ys.length<=4611686018427387904:=by rw[hm,hyl,lO,lD];omega
      have hypos:0<ys.length:=by omega
      rw[<-hyl] at hc' ⊢;rw[<-hys] at hR;rw[<-hm] at hI;replace hyl:=iD hyl;replace hm:=iD hm;replace hys:=iD hys;obtain⟨rest,hr,ht,hB⟩:=hI;obtain⟨k,hk⟩:∃ k,k=min ys.length (64 - m.length % 64):=⟨_,rfl⟩;have hk0:0<k:=by omega
      have hk1:k<=ys.length:=by omega
      have hk2:m.length % 64+k<=64:=by omega
      have hc73:wr.cell? ⟨g,73,none⟩=some (.int .i64 (m.length:Int)):=by rw[hB.cell];exact Z4k _ _ _ _ hr
      obtain⟨o,ho⟩:∃ o,o=m.length % 64:=⟨_,rfl⟩;have hoI:(m.length:Int) % 64=(o:Int):=by omega
      have ho63:o<=63:=by omega
      rw[<-ho] at hk hk2;replace ho:=iD ho;obtain⟨ad,rfl,hadg,hcell⟩:=hR (by simpa using hypos);have hsrc:∀ j v,((ys.take k).map B)[j]?=some v->wr.cell? (ad.add j)=some v:=fun j v hv=>hcell j v (by
        rw[lZ,List.getElem?_take] at hv;split at hv
        · exact hv
        · cases hv)
      replace hcell:=iD hcell;replace hsrc:=iD hsrc;replace hr:=iD hr;replace ht:=iD ht;replace hk:=iD hk;go_wp2;refine Y7 10 (by kernel_rfl) (by kernel_rfl) ?_;simp only[lF,lG,lH,lJ];repeat (first
        | (refine Zby 221 (.tmp 19) (.tmp 24) rfl rfl 5 64 underlying221 (by kernel_rfl) g 9 o _ rfl rfl hoI (by omega) ?_
           go_frame)
        | go_big_quiet_step (fail))
      refine lC ?_;rintro _ ⟨nq,rfl⟩;have hlk2:((ys.take k).map B).length=Nat.min ys.length (64 - o):=by
        rw[lE,lD,hk.out];show min (min ys.length (64 - o)) ys.length=min ys.length (64 - o);omega
      refine Z5k rfl (.tmp 25) (.tmp 26) 57 57 rfl 5 underlying57 (by kernel_rfl) g (9+o) (64 - o) (64 - o) ad ys.length cap' rfl rfl _ 223 (hB.drewN nq)
        ((ys.take k).map B) hlk2 hsrc.out (by rw[Z4j _ _ _ _ hr.out,lE,lD];omega) (Y5 _) ?_
      have hB2:Blk ((wr.drewN nq).setRow g (splice (Yi true (Ka m (m.length / 64)) rest m.length) (9+o) ((ys.take k).map B)).toArray) g 223 (Yi true (Ka m (m.length / 64)) (splice rest o (ys.take k)) m.length):=by
        rw[Zgl _ _ _ _ _ _ hr.out (by rw[lD];omega)];exact (hB.drewN nq).setRow_same _
      have hG2:wr.grownBy ((wr.drewN nq).setRow g (splice (Yi true (Ka m (m.length / 64)) rest m.length) (9+o) ((ys.take k).map B)).toArray) (some g):=Z8r _ _ _ _;have hlk:((ys.take k).map B).length=k:=by rw[lE,lD];omega
      rw[hlk];generalize (wr.drewN nq).setRow g _=wr2 at hB2 hG2 ⊢;clear hlk hlk2 hc73;go_frame;have hc73:wr2.cell? ⟨g,73,none⟩=some (.int .i64 (m.length:Int)):=by rw[hB2.cell];exact Z4k _ _ _ _ (Gb _ _ _ hr.out (by rw[lD];omega))
      have hf73:=hB2.frozen 73;have hpl:(ys.take k).length=k:=by rw[lD];omega
      replace hpl:=iD hpl;by_cases hz:(m.length+k) % 64=0
      · have hzb:(((m.length:Int)+(k:Int)) % 64 == 0)=true:=by rw[beq_iff_eq];omega
        replace hz:=iD hz;go_wp2_with (refine Z5n rfl 57 (.tmp 36) (.tmp 37) rfl 5 1 underlying57 (by kernel_rfl) (some ad) ys.length cap' k rfl rfl hk1 ?_);have hB3:=hB2.set_ 73 (.int .i64 ((m.length:Int)+(k:Int)));rw[<-lP,Z8p _ _ _ _ _ (Gb _ _ _ hr.out (by rw[hpl.out];omega))] at hB3;rw[<-lP];have hG3:=O8 hG2 (Z8s wr2 g 73 (.int .i64 ((m.length+k:Nat):Int)));generalize wr2.setCell _ _=wr3 at hB3 hG3 ⊢;clear hc73 hf73 hB2 hG2 hzb;obtain⟨rest2,hrest2⟩:∃ r,r=splice rest o (ys.take k):=⟨_,rfl⟩;rw[<-hrest2] at hB3;have hl2:rest2.length=64:=by rw[hrest2];exact Gb _ _ _ hr.out (by rw[hpl.out];omega)
        replace hl2:=iD hl2;replace hrest2:=iD hrest2;obtain⟨st,hst⟩:∃ st,st=Ka m (m.length / 64):=⟨_,rfl⟩;rw[<-hst] at hB3;replace hst:=iD hst;refine Z64 (C:=fun w'=>∃ n,w'=wr3.drewN n) [0,1,2,3,5,6,7,8] [4] 9 [10,11,12] (by kernel_rfl) (by kernel_rfl) (fun _ d _ _ _ h=>by cases d <;> exact h) ⟨1,rfl⟩ ?_;simp only[Z7,List.map_cons,List.map_nil,Zo,Zn];repeat (go_big_quiet_step (fail))
        refine lC ?_;repeat (first
          | (refine Yq 219 (.tmp 48) rfl rfl g 1 rfl 223 (Yi true st rest2 (m.length+k)) st.cells (rest2.map B++[.int .i64 ((m.length+k:Nat):Int)]) (fun w hw=>?_) rfl (.array 8 217) underlying219 rfl (by kernel_rfl) ?_
             · obtain⟨n,rfl⟩:=hw
               exact hB3.drewN n
             go_frame)
          | go_big_quiet_step (fail))
        refine lC ?_;rintro _ ⟨nq2,rfl⟩;replace hB3:=hB3.drewN nq2;replace hG3:=O8 hG3 (Zgs wr3 g nq2);generalize wr3.drewN nq2=wr4 at hB3 hG3 ⊢;have hK4:=Zgq hK hne (O8 hG hG3);have hcs:∀ i,i<64->wr4.cell? ⟨g,9+i,none⟩=some (B (rest2.getD i 0)):=fun i hi=>by
          have h1:(Yi true st rest2 (m.length+k))[9+i]?=((Yi true st rest2 (m.length+k)).drop 9)[i]?:=by rw[l1]
          have h2:i<rest2.length:=by rw[hl2.out];exact hi
          rw[hB3.cell,h1,Z8q,lX (by simpa using h2)];simp[h2]
        replace hcs:=iD hcs;have hfit:1+(Vt st rest2).cells.length<=(Yi true st rest2 (m.length+k)).length:=by rw[Z4j _ _ _ _ hl2.out];exact (by decide:1+8<=74)
        replace hfit:=iD hfit;go_wp2_with (first
          | (go_at_call 148;refine (Zgh st g 9 64 rest2 _ hB3.lt hcs.out hK4).mono ?_;rintro e w5 ⟨rfl,hb5⟩)
          | (refine Z0z rfl 219 (.tmp 56) (.tmp 54) rfl g 1 (Vt st rest2).cells rfl rfl 223 (Yi true st rest2 (m.length+k)) (hB3.below hb5 hB3.lt) hfit.out (by kernel_rfl) (Z4h _) ?_))
        go_frame;go_roundw
        case rel =>
          have hB5:=hB3.below hb5 hB3.lt;have hG5:wr.grownBy (w5.setRow g (splice (Yi true st rest2 (m.length+k)) 1 (Vt st rest2).cells).toArray) (some g):=O8 (O8 hG3 (Zbu hb5)) (Z8r w5 0 _ _);have hB6:=hB5.setRow_same (splice (Yi true st rest2 (m.length+k)) 1 (Vt st rest2).cells);rw[Zgm] at hB6;rw[hyl.out] at hc' ⊢;rw[hys.out] at hR;refine Z8t (k:=k) (done:=done) (by have:=hyl.out;omega) hc' hR hG hG5 ?_;rw[<-hys.out,<-hm.out];have hp:=hpl.out;have hz1:=hz.out;have ho1:=ho.out;refine Zgo hr.out ht.out (by omega) ?_;rw[hp,<-ho1,<-hrest2.out,<-hst.out];exact hB6
        case measure=>simp[lenOf];omega
      · have hzb:(((m.length:Int)+(k:Int)) % 64 == 0)=false:=by rw[beq_eq_false_iff_ne];omega
        replace hz:=iD hz;go_wp2_with (refine Z5n rfl 57 (.tmp 36) (.tmp 37) rfl 5 1 underlying57 (by kernel_rfl) (some ad) ys.length cap' k rfl rfl hk1 ?_);go_roundw
        case rel =>
          have hB3:=hB2.set_ 73 (.int .i64 ((m.length:Int)+(k:Int)));rw[<-lP,Z8p _ _ _ _ _ (Gb _ _ _ hr.out (by rw[hpl.out];omega))] at hB3;rw[<-lP];rw[hyl.out] at hc' ⊢;rw[hys.out] at hR;refine Z8t (k:=k) (done:=done) (by have:=hyl.out;omega) hc' hR hG (O8 hG2 (Z8s _ _ _ _)) ?_;rw[<-hys.out,<-hm.out];have hp:=hpl.out;have hz1:=hz.out;have ho1:=ho.out;refine Zgn hr.out ht.out (by omega) ?_;rw[hp,<-ho1];exact hB3
        case measure=>simp[lenOf];omega
    · obtain rfl:done=xs.length:=by omega
      go_wp2;go_end0;refine⟨rfl,by simpa using hI,hG⟩
end
section
set_option maxRecDepth 100000
set_option maxHeartbeats 4000000
open Go.Lib renaming hid → iD
open Go.Proofs.Tryz
open Go.RowKit
def Vv(n:Nat):Nat:=(64 - (n+9) % 64) % 64
def Gc(n i:Nat):UInt8:=UInt8.ofNat (n*8 / 2 ^ (56 - 8*i))
def Vc(n j:Nat):List UInt8:=(128 :: lA (Vv n) 0)++(List.range j).map (Gc n)
def Vw(n:Nat):List UInt8:=Vc n 8
def Z0f:List Value:=Yi false ⟨0,0,0,0,0,0,0,0⟩ (lA 64 0) 0
theorem Zgt:(lB.info? 223).map (fun i=>(i.zero,i.size))=some (some (.agg Z0f.toArray),74):=by kernel_rfl
def Z2a:List Value:=lA 128 (B 0)
theorem Zgu(w:World):(Instr.makeSlice 57 (.int .i64 1) (.int .i64 128)).run lB w=.ok (.slice (some ⟨w.heap.size,0,none⟩) 1 128) (w.alloc (.cells Z2a.toArray 5)):=by kernel_rfl
theorem Zgv:Z2a[0]?=some (B 0):=rfl
theorem Zgw(made:Bool)(s:St)(rest:List UInt8)(n:Nat):∀ v ∈ Yi made s rest n,v.oneCell'=true:=by
 intro v hv;simp only[Yi,List.mem_cons,List.mem_append] at hv;rcases hv with rfl | hv | hv | hv | hv
 ·rfl
 ·exact Z4h _ v hv
 ·exact Y5 _ v hv
 ·rw[hv];rfl
 ·cases hv
def HS(w:World)(cs:List Value)(v:Value)(xs:List UInt8)(wr:World):Prop :=
 Blk wr w.heap.size 59 Z2/\Blk wr (w.heap.size+1) 59 Z2/\Blk wr (w.heap.size+1+1) 223 cs /\
 wr.ownsRow (w.heap.size+3) 5 1 v xs.length (xs.map B)/\Below w.heap.size w wr/\w.heap.size+3<=wr.heap.size
theorem Zgx{w:World}{g:Nat}{o:Obj}(h:g=w.heap.size):(w.alloc o).heap[g]?=some o:=by subst h;exact heap_alloc_new w _
theorem Zgy(w:World)(cs:List Value):HS w cs (.slice (some ⟨w.heap.size+1+1+1,0,none⟩) 1 128) [128]
  (((((w.alloc (.cells Z2.toArray 59)).alloc (.cells Z2.toArray 59)).alloc (.cells Z0f.toArray 223)).setRow (w.heap.size+1+1) cs.toArray).alloc (.cells (Z2a.set 0 (.int .u8 128)).toArray 5)):=by
 have h0:Blk ((w.alloc (.cells Z2.toArray 59)).alloc (.cells Z2.toArray 59)) w.heap.size 59 Z2:=(Blk.new_at rfl).alloc _;have h1:Blk ((w.alloc (.cells Z2.toArray 59)).alloc (.cells Z2.toArray 59)) (w.heap.size+1) 59 Z2:=Blk.new_at (by simp);have hb:Below w.heap.size w ((w.alloc (.cells Z2.toArray 59)).alloc (.cells Z2.toArray 59)):=bL.alloc (by simp) _;have hs:((w.alloc (.cells Z2.toArray 59)).alloc (.cells Z2.toArray 59)).heap.size=w.heap.size+1+1:=by simp
 generalize (w.alloc (.cells Z2.toArray 59)).alloc (.cells Z2.toArray 59)=W at *;have h2:Blk (W.alloc (.cells Z0f.toArray 223)) (w.heap.size+1+1) 223 Z0f:=Blk.new_at hs.symm;refine⟨((h0.alloc _).setRow_far (by omega) _).alloc _,((h1.alloc _).setRow_far (by omega) _).alloc _,(h2.setRow_same cs).alloc _,⟨rfl,.inr ⟨w.heap.size+3,128,(Z2a.set 0 (.int .u8 128)).toArray,rfl,lI _,?_,by decide,by decide,rfl,rfl⟩⟩,?_,by simp[hs]⟩
 ·exact Zgx (by simp[hs])
 ·exact (below_setRow (hb.alloc (by omega) _) (by omega) _).alloc (by simp[hs];omega) _
theorem Z8v{w wr w':World}{cs:List Value}{v v':Value}{xs:List UInt8}{x:UInt8}{o:Obj}(h:HS w cs v xs wr)(hown:w'.ownsRow (w.heap.size+3) 5 1 v' (xs.length+1) (xs.map B++[B x]))(hg:(wr.alloc o).grownBy w' v.ownBlock):HS w cs v' (xs++[x]) w':=by
 obtain⟨h1,h2,h3,h4,h5,h6⟩:=h;have hb:Below (w.heap.size+3) (wr.alloc o) w':=Yo (h4.alloc o) hg (by simp;omega);refine⟨(h1.alloc o).below hb (by omega),(h2.alloc o).below hb (by omega),(h3.alloc o).below hb (by omega),?_,(h5.alloc (by omega) o).trans (hb.mono (by omega)),?_⟩
 ·rw[lU,lO];exact hown
 ·have:=hg.size;simp at this;omega
def Zgz(x:UInt32):List UInt8:=[w2b (shr x 24),w2b (shr x 16),w2b (shr x 8),w2b x]
def O9(s:St):List UInt8:=s.list.flatMap Zgz
def Y6(msg:List UInt8):List UInt8:=O9 (Ka (msg++Vw msg.length) ((msg++Vw msg.length).length / 64))
def dk(s:St)(k:Nat):List UInt8:=(O9 s).take (4*k)++lA (32 - 4*k) 0
theorem Zh0(s:St)(k:Nat)(hk:k<8):(((((dk s k).map B).set (4*k) (B (w2b (shr (s.list.getD k 0) 24)))).set (4*k+1) (B (w2b (shr (s.list.getD k 0) 16)))).set (4*k+2) (B (w2b (shr (s.list.getD k 0) 8)))).set (4*k+3) (B (w2b (s.list.getD k 0)))=(dk s (k+1)).map B:=by
 match k,hk with
 | 0,_=>rfl
 | 1,_=>rfl
 | 2,_=>rfl
 | 3,_=>rfl
 | 4,_=>rfl
 | 5,_=>rfl
 | 6,_=>rfl
 | 7,_=>rfl
theorem Zh1(s:St)(k:Nat)(hk:k<=8):(dk s k).length=32:=by
 have : (O9 s).length=32:=rfl;simp[dk,this];omega
theorem dk_8(s:St):dk s 8=O9 s:=rfl
theorem Zh2(n k:Nat):((n:Int)*8 / 2 ^ (56 - 8*k)) % 256=bv (Gc n k):=by
 unfold bv Gc;simp
theorem Zh3(n k:Nat):Vc n (k+1)=Vc n k++[Gc n k]:=by
 simp[Vc,List.range_succ]
theorem Zh4(n k:Nat):(Vc n k).length=Vv n+1+k:=by simp[Vc];omega
theorem keys_below{w w':World}(hK:Zm w)(h:Below w.heap.size w w'):Zm w':=fun i hi=>by
 have:=hK i hi;rw[h.cell (p:=⟨_,_,none⟩) (lY _ _ this)];exact this
theorem Zh5(st:St)(k:Nat)(hk:k<8)(w:World):(l2 219 (.agg st.cells.toArray) (.int .i64 (k:Int))).run lB w=.ok (W (st.list.getD k 0)) w:=by
 obtain rfl | rfl | rfl | rfl | rfl | rfl | rfl | rfl:k=0 ∨ k=1 ∨ k=2 ∨ k=3 ∨ k=4 ∨ k=5 ∨ k=6 ∨ k=7:=by omega
 all_goals kernel_rfl
def HD(w:World)(st:St)(k:Nat)(wr:World):Prop :=
 Blk wr w.heap.size 59 Z2/\Blk wr (w.heap.size+1) 59 ((dk st k).map B)/\Below w.heap.size w wr
theorem Z2b{w wr:World}{st:St}{k:Nat}(h:HD w st k wr)(hk:k<8)(i:Nat)(hi:i<32):∃ v,wr.cell? ⟨w.heap.size+1,i,none⟩=some v:=by
 rw[h.2.1.cell];have hl:i<((dk st k).map B).length:=by rw[lE,Zh1 _ _ (by omega)];exact hi
 exact⟨_,List.getElem?_eq_getElem hl⟩
theorem Zh6{w wr:World}{st:St}{k:Nat}(h:HD w st k wr)(hk:k<8) :
  HD w st (k+1) ((((wr.setCell ⟨w.heap.size+1,4*k,none⟩ (B (w2b (shr (st.list.getD k 0) 24)))).setCell ⟨w.heap.size+1,4*k+1,none⟩ (B (w2b (shr (st.list.getD k 0) 16)))).setCell
   ⟨w.heap.size+1,4*k+2,none⟩ (B (w2b (shr (st.list.getD k 0) 8)))).setCell ⟨w.heap.size+1,4*k+3,none⟩ (B (w2b (st.list.getD k 0)))):=by
 obtain⟨h1,h2,h3⟩:=h;have h2':=(((h2.set_ (4*k) (B (w2b (shr (st.list.getD k 0) 24)))).set_ (4*k+1) (B (w2b (shr (st.list.getD k 0) 16)))).set_ (4*k+2) (B (w2b (shr (st.list.getD k 0) 8)))).set_ (4*k+3) (B (w2b (st.list.getD k 0)));rw[Zh0 st k hk] at h2';exact⟨(((h1.far (by simp) _).far (by simp) _).far (by simp) _).far (by simp) _,h2',(((h3.setCell (by simp) _).setCell (by simp) _).setCell (by simp) _).setCell (by simp) _⟩
attribute [local go_sem] Zcb Zca shr_8 Zc6 Zh2
theorem Zh7(g:Nat)(msg:List UInt8)(w:World)(hH:Vb w g msg)(hn:msg.length<=281474976710656)(hK:Zm w) :
    Calls lB 67 #[.pointer (some ⟨g,0,none⟩)] w fun e w' =>
      e=.returned (.agg ((Y6 msg).map B).toArray)/\Below w.heap.size w w':=by
  obtain⟨rest,hr,ht,hB⟩:=hH;have hc0:w.cell? ⟨g,0,none⟩=some (.bool true):=by rw[hB.cell];rfl
  have hlt:=hB.lt;have hz:=(lV Z35).1;have hzH:=(lV Zgt).1;obtain⟨cs,hcs⟩:∃ cs,cs=Yi true (Ka msg (msg.length / 64)) rest msg.length:=⟨_,rfl⟩;have hcl:cs.length=74:=by rw[hcs];exact Z4j _ _ _ _ hr
  have hc1:∀ v ∈ cs,v.oneCell'=true:=by rw[hcs];exact Zgw _ _ _ _
  have h73:w.cell? ⟨g,73,none⟩=some (.int .i64 (msg.length:Int)):=by rw[hB.cell];exact Z4k _ _ _ _ hr
  rw[<-hcs] at hB;have hsz:(lB.info? 223).map (·.size)=some cs.length:=by rw[hcl];kernel_rfl
  replace hcs:=iD hcs;replace hr:=iD hr;replace ht:=iD ht;replace hsz:=iD hsz;replace hcl:=iD hcl;replace hc1:=iD hc1;replace h73:=iD h73;have hmk:=Zgu;have hz0:=Zgv;go_enter func67,ntmps67;go_wp2_with (first
    | (refine Zy rfl 223 (.tmp 20) rfl g rfl 223 cs ((hB.alloc _).alloc _) _ underlying223 rfl hsz.out ?_)
    | (refine Zd rfl 223 (.tmp 4) (.tmp 21) rfl (w.heap.size+1+1) cs rfl rfl 223 Z0f (Blk.new_at (by simp)) (by rw[hcl.out];rfl) hsz.out hc1.out ?_))
  have hS:=Zgy w cs;clear hz hzH hmk hz0 hc0;generalize World.alloc (World.setRow _ _ _) _=w0 at hS ⊢;go_loopw [5] (fun v wr=>∃ j,j<=Vv msg.length/\HS w cs v (128 :: lA j 0) wr) (fun v _=>200 - lenOf v)
  case atStart=>exact⟨0,Nat.zero_le _,hS⟩
  case round =>
    obtain⟨j,hj,hS⟩:=hrel;obtain⟨xs,hxs⟩:∃ xs,xs=(128:UInt8) :: lA j 0:=⟨_,rfl⟩;have hxl:xs.length=j+1:=by rw[hxs];simp
    rw[<-hxs] at hS;obtain⟨A,cap,rfl,hcap,hcap2⟩:=Za hS.2.2.2.1;have hpz:Vv msg.length<64:=by unfold Vv;omega
    have hxb:xs.length<=64:=by omega
    have hc73:wr.cell? ⟨g,73,none⟩=some (.int .i64 (msg.length:Int)):=by rw[hS.2.2.2.2.1.cell (p:=⟨g,73,none⟩) hlt];exact h73.out
    by_cases hlt2:j<Vv msg.length
    · have htb:(((msg.length:Int)+(xs.length:Int)+8) % 64 != 0)=true:=by
        rw[bne_iff_ne];unfold Vv at hlt2;omega
      replace hxl:=iD hxl;replace hxs:=iD hxs;go_wp2_with (at_builtin;refine Yt _ rfl (.tmp 35) (.tmp 36) 57 rfl (w.heap.size+3) 5 (B 0) 1 1 underlying57 Z15 (.slice A xs.length cap) xs.length (xs.map B) rfl (hS.2.2.2.1.alloc _) (· = wr.heap.size) (some ⟨wr.heap.size,0,none⟩) 1 1 [B 0] rfl rfl (Rd.of_blk (Blk.new_at rfl) rfl rfl) (by simp[lN]) (by unfold maxLen;omega) (by omega) (by have:=hS.2.2.2.2.2;simp;omega) ?_;intro v' w' hown' hg' _);go_roundw
      case rel =>
        refine⟨j+1,hlt2,?_⟩;have:=Z8v hS hown' hg';rw[hxs.out] at this;rw[List.replicate_succ'];exact this
      case measure =>
        obtain⟨A',cap',rfl,_,_⟩:=Za hown';simp[lenOf];omega
    · have htb:(((msg.length:Int)+(xs.length:Int)+8) % 64 != 0)=false:=by
        rw[bne_eq_false_iff_eq];unfold Vv at hlt2 hj;omega
      have hxp:xs=Vc msg.length 0:=by
        obtain rfl:j=Vv msg.length:=by omega
        rw[hxs];simp[Vc]
      rw[hxp] at hS;obtain⟨w1,rfl⟩:∃ w1:World,w1=wr:=⟨_,rfl⟩;replace hxl:=iD hxl;replace hxs:=iD hxs;replace hxp:=iD hxp;go_wp2;clear hc73;go_loopw [38,5] (fun i v wr=>∃ k:Nat,k<=8/\i=.int .i64 (k:Int)/\HS w cs v (Vc msg.length k) wr) (fun i _ _=>8 - (intOf i).toNat)
      case atStart =>
        refine⟨0,by omega,rfl,?_⟩;rw[hxp.out];exact hS
      case round =>
        clear hS;obtain⟨k,hk,rfl,hS⟩:=hrel;obtain⟨ys,hys⟩:∃ ys,ys=Vc msg.length k:=⟨_,rfl⟩;have hyl:ys.length<=72:=by rw[hys,Zh4];omega
        rw[<-hys] at hS;obtain⟨A1,cap1,rfl,hcap3,hcap4⟩:=Za hS.2.2.2.1;replace hys:=iD hys;have hc73:wr.cell? ⟨g,73,none⟩=some (.int .i64 (msg.length:Int)):=by rw[hS.2.2.2.2.1.cell (p:=⟨g,73,none⟩) hlt];exact h73.out
        by_cases hlt3:k<8
        · go_wp2_with (at_builtin;refine Yt _ rfl (.tmp 41) (.tmp 53) 57 rfl (w.heap.size+3) 5 (B 0) 1 1 underlying57 Z15 (.slice A1 ys.length cap1) ys.length (ys.map B) rfl (hS.2.2.2.1.alloc _) (· = wr.heap.size) (some ⟨wr.heap.size,0,none⟩) 1 1 [B (Gc msg.length k)] rfl rfl (Rd.of_blk (cs:=[B (Gc msg.length k)]) (r:=[]) (Blk.new_at rfl) rfl rfl) (by simp[lN]) (by unfold maxLen;omega) (by omega) (by have:=hS.2.2.2.2.2;simp;omega) ?_;intro v' w' hown' hg' _)
          go_roundw
          case rel =>
            refine⟨k+1,by omega,by go_num,?_⟩;have:=Z8v hS hown' hg';rw[hys.out,<-Zh3] at this;exact this
          case measure=>simp[intOf];omega
        · obtain⟨k8,hk8⟩:∃ k8,k8=k:=⟨_,rfl⟩
          rw[<-hk8] at hlt3 hk ⊢;have hyp:ys=Vw msg.length:=by rw[hys.out,show k=8 by omega];rfl
          rw[hyp] at hS;have hge8:8<=k8:=by omega
          obtain⟨w2,rfl⟩:∃ w2:World,w2=wr:=⟨_,rfl⟩;replace hyp:=iD hyp;clear hk8;have hHI:Vb w2 (w.heap.size+1+1) msg:=⟨rest,hr.out,ht.out,by rw[<-hcs.out];exact hS.2.2.1⟩;have hRd:Rd w2 (· ≠ w.heap.size+1+1) A1 ((Vw msg.length).map B):=by
            have:=K1 hS.2.2.2.1;exact this.weak (fun b _ hb=>by omega)
          have hK2:Zm w2:=keys_below hK hS.2.2.2.2.1;have hpl:(Vw msg.length).length=ys.length:=by rw[hyp.out]
          have hwr:=Z8u (w.heap.size+1+1) msg (Vw msg.length) A1 cap1 w2 hHI hRd (by rw[hpl];exact hcap3) (by rw[hpl];omega) hK2;rw[hpl] at hwr;replace hpl:=iD hpl;replace hwr:=iD hwr;clear hc73;obtain⟨st3,hst3⟩:∃ s,s=Ka (msg++Vw msg.length) ((msg++Vw msg.length).length / 64):=⟨_,rfl⟩;replace hst3:=iD hst3;have hcell45:∀ (st:St) (k:Nat),k<8->∀ w,(l2 219 (.agg st.cells.toArray) (.int .i64 (k:Int))).run lB w=.ok (W (st.list.getD k 0)) w:=Zh5;replace hcell45:=iD hcell45;go_wp2_with (first
            | (go_at_call 66
               refine hwr.out.mono ?_;rintro e w3 ⟨rfl,⟨rest3,hr3,ht3,hB3⟩,hG3⟩;rw[<-hst3.out] at hB3;generalize (msg++Vw msg.length).length=n3 at hB3 ht3;replace hr3:=iD hr3;clear ht3)
            | (refine Xj rfl 219 (.tmp 58) rfl (w.heap.size+1+1) 1 rfl 223 (Yi true st3 rest3 n3) st3.cells (rest3.map B++[.int .i64 (n3:Int)]) hB3 rfl _ underlying219 rfl (by kernel_rfl) ?_))
          have hM:HD w st3 0 w3:=⟨(hS.1).grown hG3 (by simp;omega),(hS.2.1).grown hG3 (by simp),hS.2.2.2.2.1.trans (Z11 hG3 (by have:=hS.2.2.2.2.2;omega) (by omega))⟩;clear hS hHI hRd hK2 hG3 hB3;go_loopw [60] (fun i wr=>∃ k:Nat,k<=8/\i=.int .i64 (k:Int)/\HD w st3 k wr) (fun i _=>8 - (intOf i).toNat)
          case atStart=>exact⟨0,by omega,rfl,hM⟩
          case round =>
            clear hM;obtain⟨k,hk9,rfl,hM⟩:=hrel;by_cases hlt4:k<8
            · have hidx:=hcell45.out st3 k hlt4
              obtain⟨d0,hd0⟩:=Z2b hM hlt4 (4*k) (by omega);obtain⟨d1,hd1⟩:=Z2b hM hlt4 (4*k+1) (by omega);obtain⟨d2,hd2⟩:=Z2b hM hlt4 (4*k+2) (by omega);obtain⟨d3,hd3⟩:=Z2b hM hlt4 (4*k+3) (by omega);have hf0:=hM.2.1.frozen (4*k);have hf1:=hM.2.1.frozen (4*k+1);have hf2:=hM.2.1.frozen (4*k+2);have hf3:=hM.2.1.frozen (4*k+3);go_wp2;go_roundw
              case rel=>exact⟨k+1,by omega,by go_num,Zh6 hM hlt4⟩
              case measure=>simp[intOf];omega
            · obtain rfl:k=8:=by omega
              have hM2:=hM.2.1;rw[dk_8] at hM2;go_wp2_with (first
                | (refine Zy rfl 59 (.tmp 3) rfl (w.heap.size+1) rfl 59 ((O9 st3).map B) hM2 _ underlying59 rfl (by kernel_rfl) ?_)
                | (refine Zd rfl 59 (.tmp 2) (.tmp 91) rfl w.heap.size ((O9 st3).map B) rfl rfl 59 Z2 hM.1 rfl (by kernel_rfl) (Y5 _) ?_))
              refine Qe Tryz.results67 w.heap.size 59 ((O9 st3).map B) _ rfl (hM.1.setRow_same _) underlying59 rfl (by kernel_rfl) rfl ?_;exact⟨by rw[hst3.out];rfl,below_setRow hM.2.2 (lI _) _⟩
end
section
set_option maxHeartbeats 1000000
open Go.Lib renaming hid → iD
open Go.Proofs.Tryz
open Go.RowKit
theorem Ql(xs:List UInt8)(A:Option Addr)(cap:Nat)(w:World)(hR:Rd w (· < w.heap.size) A (xs.map B))(hcap:xs.length<=cap)(hn:xs.length<=281474976710656)(hK:Zm w) :
  Calls lB 20 #[.slice A xs.length cap] w fun e w'=>e=.returned (.agg ((Y6 xs).map B).toArray)/\Below w.heap.size w w':=by
 have hz:=(lV Z35).1;go_enter func20,ntmps20;go_wp2_with (go_at_call 65;refine (Zgj _).mono ?_);rintro e w1 ⟨g,rfl,hg,hB1,hb1⟩;have hs1:=hb1.size;simp at hs1;have hH1:=Zgk hB1;have hb1':Below w.heap.size w w1:=((Below.refl w.heap.size w).alloc (lI _) _).trans (hb1.mono (by simp));have hres:Blk w1 w.heap.size 59 Z2:=(Blk.new_at (w:=w) rfl).below hb1 (by simp);have hR1:Rd w1 (· ≠ g) A (xs.map B):=(hR.below hb1').weak (fun b hb hlt=>by simp at hg;omega);have hw:=Z8u g [] xs A cap w1 hH1 hR1 hcap (by simp;omega) (keys_below hK hb1');simp at hg;clear hz hb1;replace hw:=iD hw;go_wp2_with (go_at_call 66;refine hw.out.mono ?_);rintro e w2 ⟨rfl,hH2,hG2⟩;have hb2:Below w.heap.size w w2:=hb1'.trans (Z11 hG2 (by omega) (by omega));have hres2:Blk w2 w.heap.size 59 Z2:=hres.grown hG2 (by simp;omega);have hh:=Zh7 g ([]++xs) w2 hH2 (by simpa using hn) (keys_below hK hb2);rw[List.nil_append] at hh;replace hh:=iD hh;go_wp2_with (go_at_call 67;refine hh.out.mono ?_);rintro e w3 ⟨rfl,hb3⟩;go_wp2_with (refine Zd rfl 59 (.tmp 2) (.tmp 9) rfl w.heap.size ((Y6 xs).map B) rfl rfl 59 Z2 (hres2.below hb3 hres2.lt) rfl (by kernel_rfl) (Y5 _) ?_);refine Qe Tryz.results20 w.heap.size 59 ((Y6 xs).map B) _ rfl ((hres2.below hb3 hres2.lt).setRow_same _) underlying59 rfl (by kernel_rfl) rfl ?_;exact⟨rfl,below_setRow (hb2.trans (hb3.mono hb2.size)) (lI _) _⟩
end
end Go.Proofs.YtefjlobdifjogaaGreatDoor
