import Derived.Test.YtfdimggmljkkbaaGreatDoorP01
import Derived.Deep.DeepMust
import Derived.Test.YtfdimggmljkkbaaGreatDoorCards
import Derived.Test.YtfdimggmljkkbaaGreatDoorTie
import Derived.Lib.LaidTab
import Derived.SizedLaws
import Derived.Stop.LaidErr
open Go renaming wpQuiet_nil → lC
open Go.Instr renaming index → lZ
open Go.Proofs.Tryz renaming prog → lB
open Go.Value renaming oneCell' → lK
open Go.World renaming block_lt_of_cell? → lV
open Int renaming natCast_add → lN
open List renaming replicate → lA, length_take → lD, length_map → lE, take_succ_cons → lF, take_zero → lG, drop_succ_cons → lH, drop_zero → lI, append_assoc → lJ, length_append → lM, set_append_right → lO, drop_append_of_le_length → lP, take_append_of_le_length → lQ, take_of_length_le → lR, map_append → lS, getElem?_append_right → lT, getElem?_append_left → lU, map_take → lW, map_drop → lX, getElem?_drop → lY
open Nat renaming le_refl → lL
namespace Go.Proofs.YtfdimggmljkkbaaGreatDoor
section
def be32(a b c d:UInt8):UInt32:=shl (b2w a) 24 ||| shl (b2w b) 16 ||| shl (b2w c) 8 ||| b2w d
def sig0(x:UInt32):UInt32:=Kh x 7 ^^^ Kh x 18 ^^^ shr x 3
def sig1(x:UInt32):UInt32:=Kh x 17 ^^^ Kh x 19 ^^^ shr x 10
def Sig1(e:UInt32):UInt32:=Kh e 6 ^^^ Kh e 11 ^^^ Kh e 25
def Sig0(a:UInt32):UInt32:=Kh a 2 ^^^ Kh a 13 ^^^ Kh a 22
def chF(e f g:UInt32):UInt32:=(e &&& f) ^^^ (~~~e &&& g)
def majF(a b c:UInt32):UInt32:=(a &&& b) ^^^ (a &&& c) ^^^ (b &&& c)
def Z5o(blk:List UInt8)(i:Nat):UInt32:=be32 (blk.getD (4*i) 0) (blk.getD (4*i+1) 0) (blk.getD (4*i+2) 0) (blk.getD (4*i+3) 0)
def Z5p(ws:List UInt32)(i:Nat):UInt32:=ws.getD (i - 16) 0+sig0 (ws.getD (i - 15) 0)+ws.getD (i - 7) 0+sig1 (ws.getD (i - 2) 0)
def X9(blk:List UInt8):Nat->List UInt32
 | 0=>[]
 | n+1=>X9 blk n++[if n<16 then Z5o blk n else Z5p (X9 blk n) n]
theorem Z0a(blk:List UInt8)(n:Nat):(X9 blk n).length=n:=by
 induction n with
 | zero=>rfl
 | succ n ih=>simp[X9,ih]
theorem Zhu(blk:List UInt8)(n:Nat)(h:n<16):X9 blk (n+1)=X9 blk n++[Z5o blk n]:=by simp[X9,h]
theorem Zhv(blk:List UInt8)(n:Nat)(h:16<=n):X9 blk (n+1)=X9 blk n++[Z5p (X9 blk n) n]:=by
 have : ¬ n<16:=by omega
 simp[X9,this]
def Oi:List UInt32:=[
 0x428a2f98,0x71374491,0xb5c0fbcf,0xe9b5dba5,0x3956c25b,0x59f111f1,0x923f82a4,0xab1c5ed5,
 0xd807aa98,0x12835b01,0x243185be,0x550c7dc3,0x72be5d74,0x80deb1fe,0x9bdc06a7,0xc19bf174,
 0xe49b69c1,0xefbe4786,0x0fc19dc6,0x240ca1cc,0x2de92c6f,0x4a7484aa,0x5cb0a9dc,0x76f988da,
 0x983e5152,0xa831c66d,0xb00327c8,0xbf597fc7,0xc6e00bf3,0xd5a79147,0x06ca6351,0x14292967,
 0x27b70a85,0x2e1b2138,0x4d2c6dfc,0x53380d13,0x650a7354,0x766a0abb,0x81c2c92e,0x92722c85,
 0xa2bfe8a1,0xa81a664b,0xc24b8b70,0xc76c51a3,0xd192e819,0xd6990624,0xf40e3585,0x106aa070,
 0x19a4c116,0x1e376c08,0x2748774c,0x34b0bcb5,0x391c0cb3,0x4ed8aa4a,0x5b9cca4f,0x682e6ff3,
 0x748f82ee,0x78a5636f,0x84c87814,0x8cc70208,0x90befffa,0xa4506ceb,0xbef9a3f7,0xc67178f2]
structure St where
 a:UInt32
 b:UInt32
 c:UInt32
 d:UInt32
 e:UInt32
 f:UInt32
 g:UInt32
 h:UInt32
def st0:St:=⟨0x6a09e667,0xbb67ae85,0x3c6ef372,0xa54ff53a,0x510e527f,0x9b05688c,0x1f83d9ab,0x5be0cd19⟩
def tOf(k w:UInt32)(s:St):UInt32:=s.h+Sig1 s.e+chF s.e s.f s.g+k+w
def uOf(s:St):UInt32:=Sig0 s.a+majF s.a s.b s.c
def rnd(k w:UInt32)(s:St):St:=⟨tOf k w s+uOf s,s.a,s.b,s.c,s.d+tOf k w s,s.e,s.f,s.g⟩
def Z0b(ws:List UInt32)(s:St):Nat->St
 | 0=>s
 | n+1=>rnd (Oi.getD n 0) (ws.getD n 0) (Z0b ws s n)
def addS(v s:St):St:=⟨v.a+s.a,v.b+s.b,v.c+s.c,v.d+s.d,v.e+s.e,v.f+s.f,v.g+s.g,v.h+s.h⟩
def Ul(s:St)(blk:List UInt8):St:=addS (Z0b (X9 blk 64) s 64) s
def St.list(s:St):List UInt32:=[s.a,s.b,s.c,s.d,s.e,s.f,s.g,s.h]
def St.cells(s:St):List Value:=s.list.map W
end
section
set_option maxRecDepth 100000
set_option maxHeartbeats 4000000
open Go.Lib renaming hid → iD
open Go.Proofs.Tryz
open Go.RowKit
def Y9(w:World):Prop:=∀ i,i<64->w.cell? ⟨0,i,none⟩=some (W (Oi.getD i 0))
def Um(ws:List UInt32):List Value:=ws.map W++lA (64 - ws.length) (W 0)
def Z1k:List Value:=lA 8 (W 0)
def Zi1:List Value:=lA 64 (W 0)
def M1(s:St)(ws:List UInt32)(w wr:World):Prop :=
 Blk wr w.heap.size 281 s.cells/\Blk wr (w.heap.size+1) 281 Z1k/\Blk wr (w.heap.size+1+1) 345 (Um ws) /\
 Below w.heap.size w wr/\wr.heap.size=w.heap.size+3
theorem Zi2(ws:List UInt32)(x:UInt32)(h:ws.length<64):(Um ws).set ws.length (W x)=Um (ws++[x]):=by
 unfold Um;obtain⟨m,hm⟩:∃ m,64 - ws.length=m+1:=⟨63 - ws.length,by omega⟩;have hm2:64 - (ws.length+1)=m:=by omega
 rw[lO _ _ (by simp)];simp[hm,hm2,List.replicate_succ]
theorem Za0(ws:List UInt32)(h:ws.length<64):(Um ws)[ws.length]?=some (W 0):=by
 unfold Um;rw[lT (by simp)];rw[lE,Nat.sub_self,List.getElem?_replicate,if_pos (by omega)]
theorem Z1l(ws:List UInt32)(i:Nat)(h:i<ws.length):(Um ws)[i]?=some (W (ws.getD i 0)):=by
 unfold Um;rw[lU (by simpa using h)];simp[h]
theorem Za1{s:St}{ws:List UInt32}{w wr:World}(h:M1 s ws w wr)(x:UInt32)(hl:ws.length<64)(nq:Nat) :
  M1 s (ws++[x]) w ((wr.drewN nq).setCell ⟨w.heap.size+1+1,ws.length,none⟩ (W x)):=by
 obtain⟨h1,h2,h3,h4,h5⟩:=h;refine⟨(h1.drewN nq).far (by simp;omega) _,(h2.drewN nq).far (by simp) _,?_,?_,by simpa using h5⟩
 ·have:=(h3.drewN nq).set_ ws.length (W x);rw[Zi2 ws x hl] at this;exact this
 ·exact (below_drewN h4 nq).setCell (by simp;omega) _
theorem Zi3{s:St}{ws:List UInt32}{w wr:World}(h:M1 s ws w wr)(nq:Nat):M1 s ws w (wr.drewN nq):=by
 obtain⟨h1,h2,h3,h4,h5⟩:=h;exact⟨h1.drewN nq,h2.drewN nq,h3.drewN nq,below_drewN h4 nq,h5⟩
theorem Zi4(s:St)(w:World):M1 s [] w (((w.alloc (.cells s.cells.toArray 281)).alloc (.cells Z1k.toArray 281)).alloc (.cells Zi1.toArray 345)):=by
 refine⟨?_,?_,?_,?_,?_⟩
 ·exact ((Blk.new_at rfl).alloc _).alloc _
 ·exact (Blk.new_at (by simp)).alloc _
 ·exact Blk.new_at (by simp)
 ·exact (bL.alloc (by simp) _).alloc (by simp;omega) _
 ·simp
def M3(s:St)(ws:List UInt32)(v:St)(w wr:World):Prop :=
 Blk wr w.heap.size 281 s.cells/\Blk wr (w.heap.size+1) 281 Z1k/\Blk wr (w.heap.size+1+1) 345 (Um ws) /\
 Blk wr (w.heap.size+3) 281 v.cells/\Below w.heap.size w wr/\wr.heap.size=w.heap.size+4
theorem Z39{s:St}{ws:List UInt32}{v:St}{w wr:World}(h:M3 s ws v w wr)(nq:Nat):M3 s ws v w (wr.drewN nq):=by
 obtain⟨h1,h2,h3,h4,h5,h6⟩:=h;exact⟨h1.drewN nq,h2.drewN nq,h3.drewN nq,h4.drewN nq,below_drewN h5 nq,h6⟩
theorem Z3a{s:St}{ws:List UInt32}{v:St}{w wr:World}(h:M3 s ws v w wr) :
  wr.cell? ⟨w.heap.size+3,0,none⟩=some (W v.a)/\wr.cell? ⟨w.heap.size+3,1,none⟩=some (W v.b)/\wr.cell? ⟨w.heap.size+3,2,none⟩=some (W v.c)/\wr.cell? ⟨w.heap.size+3,3,none⟩=some (W v.d) /\
  wr.cell? ⟨w.heap.size+3,4,none⟩=some (W v.e)/\wr.cell? ⟨w.heap.size+3,5,none⟩=some (W v.f)/\wr.cell? ⟨w.heap.size+3,6,none⟩=some (W v.g)/\wr.cell? ⟨w.heap.size+3,7,none⟩=some (W v.h):=by
 obtain⟨h1,h2,h3,h4,h5,h6⟩:=h;refine⟨?_,?_,?_,?_,?_,?_,?_,?_⟩ <;> rw[h4.cell] <;> rfl
theorem Za2{s:St}{ws:List UInt32}{v:St}{w wr:World}(h:M3 s ws v w wr)(i:Nat):wr.frozen? ⟨w.heap.size+3,i,none⟩=false:=h.2.2.2.1.frozen i
theorem Zi5{s:St}{ws:List UInt32}{v:St}{w wr:World}(h:M3 s ws v w wr)(k:Nat)(hk:k<ws.length):wr.cell? ⟨w.heap.size+1+1,k,none⟩=some (W (ws.getD k 0)):=by
 rw[h.2.2.1.cell];exact Z1l _ _ hk
theorem Zi6{s:St}{ws:List UInt32}{w wr:World}(h:M1 s ws w wr) :
  wr.cell? ⟨w.heap.size,0,none⟩=some (W s.a)/\wr.cell? ⟨w.heap.size,1,none⟩=some (W s.b)/\wr.cell? ⟨w.heap.size,2,none⟩=some (W s.c)/\wr.cell? ⟨w.heap.size,3,none⟩=some (W s.d) /\
  wr.cell? ⟨w.heap.size,4,none⟩=some (W s.e)/\wr.cell? ⟨w.heap.size,5,none⟩=some (W s.f)/\wr.cell? ⟨w.heap.size,6,none⟩=some (W s.g)/\wr.cell? ⟨w.heap.size,7,none⟩=some (W s.h):=by
 refine⟨?_,?_,?_,?_,?_,?_,?_,?_⟩ <;> rw[h.1.cell] <;> rfl
theorem Zi7{s:St}{ws:List UInt32}{w wr:World}(h:M1 s ws w wr):M3 s ws s w (wr.alloc (.cells s.cells.toArray 281)):=by
 obtain⟨h1,h2,h3,h4,h5⟩:=h;exact⟨h1.alloc _,h2.alloc _,h3.alloc _,Blk.new_at h5.symm,h4.alloc (by omega) _,by simp[h5]⟩
theorem Zi8{s:St}{ws:List UInt32}{v:St}{w wr:World}(h:M3 s ws v w wr) :
  M3 s ws ⟨v.a,v.a,v.b,v.c,v.d,v.e,v.f,v.g⟩ w (wr.setRow (w.heap.size+3) (splice v.cells 1 [W v.a,W v.b,W v.c,W v.d,W v.e,W v.f,W v.g]).toArray):=by
 obtain⟨h1,h2,h3,h4,h5,h6⟩:=h;exact⟨h1.setRow_far (by omega) _,h2.setRow_far (by omega) _,h3.setRow_far (by omega) _,h4.setRow_same _,below_setRow h5 (by omega) _,by simpa using h6⟩
theorem Za3{s:St}{ws:List UInt32}{v v':St}{w wr:World}(h:M3 s ws v w wr)(i:Nat)(u:Value)(hv:v.cells.set i u=v'.cells):M3 s ws v' w (wr.setCell ⟨w.heap.size+3,i,none⟩ u):=by
 obtain⟨h1,h2,h3,h4,h5,h6⟩:=h;have h4':=h4.set_ i u;rw[hv] at h4';exact⟨h1.far (by simp) _,h2.far (by simp) _,h3.far (by simp) _,h4',h5.setCell (by simp) _,by simpa using h6⟩
theorem Zi9{s:St}{ws:List UInt32}{v:St}{w wr:World}(h:M3 s ws v w wr)(hK:Y9 w)(i:Nat)(hi:i<64):wr.cell? ⟨0,i,none⟩=some (W (Oi.getD i 0)):=by
 have:=hK i hi;rw[h.2.2.2.2.1.cell (p:=⟨_,_,none⟩) (lV _ _ this)];exact this
def Oj(vl sl:List UInt32):Nat->List UInt32
 | 0=>vl
 | n+1=>(Oj vl sl n).set n ((Oj vl sl n).getD n 0+sl.getD n 0)
theorem Zia(vl sl:List UInt32)(n:Nat):(Oj vl sl n).length=vl.length:=by
 induction n with
 | zero=>rfl
 | succ n ih=>simp[Oj,ih]
theorem Zib(v s:St):Oj v.list s.list 8=(addS v s).list:=rfl
def M4(s:St)(vl:List UInt32)(w wr:World):Prop :=
 Blk wr w.heap.size 281 s.cells/\Blk wr (w.heap.size+1) 281 Z1k /\
 Blk wr (w.heap.size+3) 281 (vl.map W)/\Below w.heap.size w wr
theorem m4_of{s:St}{ws:List UInt32}{v:St}{w wr:World}(h:M3 s ws v w wr):M4 s v.list w wr:=⟨h.1,h.2.1,h.2.2.2.1,h.2.2.2.2.1⟩
theorem Zic{s:St}{vl:List UInt32}{w wr:World}(h:M4 s vl w wr)(nq k:Nat)(x:UInt32):M4 s (vl.set k x) w ((wr.drewN nq).setCell ⟨w.heap.size+3,k,none⟩ (W x)):=by
 obtain⟨h1,h2,h3,h4⟩:=h;have h3':=(h3.drewN nq).set_ k (W x);rw[<-List.map_set] at h3';exact⟨(h1.drewN nq).far (by simp) _,(h2.drewN nq).far (by simp) _,h3',(below_drewN h4 nq).setCell (by simp) _⟩
theorem Za4(vl:List UInt32)(k:Nat)(h:k<vl.length):(vl.map W)[k]?=some (W (vl.getD k 0)):=by simp[h]
theorem Z5r(vl:List UInt32):∀ v ∈ vl.map W,v.oneCell'=true:=by simp[lK]
theorem Z5s{P:Program}{f:FuncId}{args:Array Value}{w:World}{v:Value}
  (h:Calls P f args w fun e w'=>e=.returned v/\w=w') {n:Nat} {w0:World} (hw:w=w0.drewN n):Calls P f args w fun e w''=>e=.returned v/\∃ m,w''=w0.drewN m :=
 h.mono fun _ _ ⟨he,hm⟩=>⟨he,n,by rw[<-hm,hw]⟩
attribute [local go_sem] w_or Z7v w_and Z7w Zek Z4g Zep shl_8 Zer Zes shr_3 Zet
theorem Zid(s:St)(bb off cap:Nat)(blk:List UInt8)(w:World)(hbb:bb<w.heap.size)
  (hcells:∀ i,i<64->w.cell? ⟨bb,off+i,none⟩=some (B (blk.getD i 0))) (hK:Y9 w) :
  Calls lB 186 #[.agg s.cells.toArray,.slice (some ⟨bb,off,none⟩) 64 cap] w fun e w' =>
   e=.returned (.agg (Ul s blk).cells.toArray)/\Below w.heap.size w w':=by
 have HC:=iD hcells;clear hcells;go_enter func186,ntmps186;go_wp2;go_loopw [17] (fun i wr=>∃ k:Nat,k<=16/\i=.int .i64 k/\M1 s (X9 blk k) w wr) (fun i _=>16 - (intOf i).toNat)
 case atStart=>exact⟨0,by omega,rfl,Zi4 s w⟩
 case round =>
  obtain⟨k,hk,rfl,hM⟩:=hrel;by_cases hlt:k<16
  ·as_aux_lemma =>
    have hc0:wr.cell? ⟨bb,off+4*k,none⟩=some (B (blk.getD (4*k) 0)):=by rw[hM.2.2.2.1.cell (p:=⟨bb,_,none⟩) hbb];exact HC.out _ (by omega)
    have hc1:wr.cell? ⟨bb,off+(4*k+1),none⟩=some (B (blk.getD (4*k+1) 0)):=by rw[hM.2.2.2.1.cell (p:=⟨bb,_,none⟩) hbb];exact HC.out _ (by omega)
    have hc2:wr.cell? ⟨bb,off+(4*k+2),none⟩=some (B (blk.getD (4*k+2) 0)):=by rw[hM.2.2.2.1.cell (p:=⟨bb,_,none⟩) hbb];exact HC.out _ (by omega)
    have hc3:wr.cell? ⟨bb,off+(4*k+3),none⟩=some (B (blk.getD (4*k+3) 0)):=by rw[hM.2.2.2.1.cell (p:=⟨bb,_,none⟩) hbb];exact HC.out _ (by omega)
    go_wp2;refine Ye 35 (by kernel_rfl) (by kernel_rfl) ?_;simp only[lF,lG,lH,lI];repeat (go_big_quiet_step (fail))
    refine lC ?_;rintro _ ⟨nq,rfl⟩;have hs0:wr.cell? ⟨w.heap.size+1+1,k,none⟩=some (W 0):=by
     rw[hM.2.2.1.cell];have:=Za0 (X9 blk k) (by rw[Z0a];omega);rwa [Z0a] at this
    have hf0:wr.frozen? ⟨w.heap.size+1+1,k,none⟩=false:=hM.2.2.1.frozen _;go_wp2;go_roundw
    case rel =>
     refine⟨k+1,by omega,by go_num,?_⟩;rw[Zhu blk k hlt];have:=Za1 hM (Z5o blk k) (by rw[Z0a];omega) nq;rw[Z0a] at this;exact this
    case measure=>simp[intOf];omega
  ·as_aux_lemma =>
    obtain⟨k1,hk1⟩:∃ k1,k1=k:=⟨_,rfl⟩;rw[<-hk1] at hM hlt hk ⊢;have hk16:k1=16:=by omega
    rw[hk16] at hM;have hge:16<=k1:=by omega
    clear hk16 hk1;obtain⟨w1,rfl⟩:∃ w1:World,w1=wr:=⟨_,rfl⟩;go_wp2;go_loopw [7] (fun i wr=>∃ k:Nat,16<=k/\k<=64/\i=.int .i64 k/\M1 s (X9 blk k) w wr) (fun i _=>64 - (intOf i).toNat)
    case atStart=>exact⟨16,by omega,by omega,rfl,hM⟩
    case round =>
     clear hM;obtain⟨k,hk16,hk,rfl,hM⟩:=hrel;by_cases hlt:k<64
     ·as_aux_lemma =>
       have hl:=iD (Z0a blk k);have hc1:wr.cell? ⟨w.heap.size+1+1,k - 15,none⟩=some (W ((X9 blk k).getD (k - 15) 0)):=by rw[hM.2.2.1.cell];exact Z1l _ _ (by rw[hl.out];omega)
       have hc3:wr.cell? ⟨w.heap.size+1+1,k - 2,none⟩=some (W ((X9 blk k).getD (k - 2) 0)):=by rw[hM.2.2.1.cell];exact Z1l _ _ (by rw[hl.out];omega)
       go_wp2;go_quiet (fail);replace hM:=Zi3 hM nq;clear hc1 hc3;generalize wr.drewN nq=wr at hM ⊢;have hc0:wr.cell? ⟨w.heap.size+1+1,k - 16,none⟩=some (W ((X9 blk k).getD (k - 16) 0)):=by rw[hM.2.2.1.cell];exact Z1l _ _ (by rw[hl.out];omega)
       have hc2:wr.cell? ⟨w.heap.size+1+1,k - 7,none⟩=some (W ((X9 blk k).getD (k - 7) 0)):=by rw[hM.2.2.1.cell];exact Z1l _ _ (by rw[hl.out];omega)
       have hs0:wr.cell? ⟨w.heap.size+1+1,k,none⟩=some (W 0):=by
        rw[hM.2.2.1.cell];have:=Za0 (X9 blk k) (by rw[hl.out];omega);rwa [hl.out] at this
       have hf0:wr.frozen? ⟨w.heap.size+1+1,k,none⟩=false:=hM.2.2.1.frozen _;go_wp2;refine Ye 29 (by kernel_rfl) (by kernel_rfl) ?_;simp only[lF,lG,lH,lI];repeat (go_big_quiet_step ((go_at_call 232;exact Z5s (Z5q _ _ _ (by decide) (by decide)) rfl)))
       refine lC ?_;rintro _ ⟨nq,rfl⟩;go_wp2;go_roundw
       case rel =>
        refine⟨k+1,by omega,by omega,by go_num,?_⟩;rw[Zhv blk k hk16];have:=Za1 hM (Z5p (X9 blk k) k) (by rw[hl.out];omega) nq;rw[hl.out] at this;exact this
       case measure=>simp[intOf];omega
     ·as_aux_lemma =>
       obtain⟨k2,hk2⟩:∃ k2,k2=k:=⟨_,rfl⟩;rw[<-hk2] at hM hlt hk ⊢;have hk64:k2=64:=by omega
       rw[hk64] at hM;have hge2:64<=k2:=by omega
       clear hk64 hk2;obtain⟨w2,rfl⟩:∃ w2:World,w2=wr:=⟨_,rfl⟩;have hz:=iD hM.2.2.2.2;obtain⟨c0,c1,c2,c3,c4,c5,c6,c7⟩:=Zi6 hM;go_wp2;rw[hz.out];clear c0 c1 c2 c3 c4 c5 c6 c7;go_loopw [98] (fun i wr=>∃ k:Nat,k<=64/\i=.int .i64 k/\M3 s (X9 blk 64) (Z0b (X9 blk 64) s k) w wr) (fun i _=>64 - (intOf i).toNat)
       case atStart=>exact⟨0,by omega,rfl,Zi7 hM⟩
       case round =>
        clear hM;obtain⟨k,hk,rfl,hM⟩:=hrel;by_cases hlt:k<64
        ·as_aux_lemma =>
          obtain⟨v,hv⟩:∃ v,v=Z0b (X9 blk 64) s k:=⟨_,rfl⟩;rw[<-hv] at hM;replace hv:=iD hv;obtain⟨c0,c1,c2,c3,c4,c5,c6,c7⟩:=Z3a hM;go_wp2;go_quiet (fail);replace hM:=Z39 hM nq;clear c0 c1 c2 c3 c4 c5 c6 c7;generalize wr.drewN nq=wr at hM ⊢;obtain⟨c0,c1,c2,c3,c4,c5,c6,c7⟩:=Z3a hM;have hrow:=Zi5 hM k (by rw[Z0a];exact hlt);have hkey:=Zi9 hM hK k hlt;go_wp2;go_quiet ((go_at_call 232;exact Z5s (Z5q _ _ _ (by decide) (by decide)) rfl));replace hM:=Z39 hM nq;clear c0 c1 c2 c3 c4 c5 c6 c7 hrow hkey;generalize wr.drewN nq=wr at hM ⊢;obtain⟨c0,c1,c2,c3,c4,c5,c6,c7⟩:=Z3a hM;go_wp2;go_quiet ((go_at_call 232;exact Z5s (Z5q _ _ _ (by decide) (by decide)) rfl));replace hM:=Z39 hM nq;clear c0 c1 c2 c3 c4 c5 c6 c7;generalize wr.drewN nq=wr at hM ⊢;go_wp2;refine Ye 2 (by kernel_rfl) (by kernel_rfl) ?_;simp only[lF,lG,lH,lI];repeat (go_big_quiet_step (fail))
          refine lC ?_;rintro _ ⟨nq,rfl⟩;replace hM:=Z39 hM nq;generalize wr.drewN nq=wr at hM ⊢;refine Z7o rfl (.tmp 159) (.tmp 160) 347 347 rfl 279 underlying347 (by kernel_rfl) (w.heap.size+3) 1 7 7 ⟨w.heap.size+3,0,none⟩ 7 8 rfl rfl v.cells 281 hM.2.2.2.1
           [W v.a,W v.b,W v.c,W v.d,W v.e,W v.f,W v.g] rfl (U9 hM.2.2.2.1 0 _ [W v.h] rfl) (lL 8) (by simp[lK]) ?_
          replace hM:=Zi8 hM;generalize wr.setRow _ _=wr at hM ⊢;obtain⟨c0,c1,c2,c3,c4,c5,c6,c7⟩:=Z3a hM;have f0:=Za2 hM 0;have f4:=Za2 hM 4;go_wp2;go_roundw
          case rel =>
           refine⟨k+1,by omega,by go_num,?_⟩;have e:Z0b (X9 blk 64) s (k+1)=rnd (Oi.getD k 0) ((X9 blk 64).getD k 0) v:=by rw[hv.out];rfl
           rw[e,Zel,w_sum5'];exact Za3 (v:=⟨v.a,v.a,v.b,v.c,v.d+tOf (Oi.getD k 0) ((X9 blk 64).getD k 0) v,v.e,v.f,v.g⟩) (Za3 hM 4 _ rfl) 0 _ rfl
          case measure=>simp[intOf];omega
        ·as_aux_lemma =>
          obtain⟨k3,hk3⟩:∃ k3,k3=k:=⟨_,rfl⟩;rw[<-hk3] at hM hlt hk ⊢;have hk64:k3=64:=by omega
          rw[hk64] at hM;have hge3:64<=k3:=by omega
          clear hk64 hk3;obtain⟨w3,rfl⟩:∃ w3:World,w3=wr:=⟨_,rfl⟩;replace hM:=m4_of hM;obtain⟨v,hv⟩:∃ v,v=Z0b (X9 blk 64) s 64:=⟨_,rfl⟩;rw[<-hv] at hM;replace hv:=iD hv;go_wp2;go_loopw [172] (fun i wr=>∃ k:Nat,k<=8/\i=.int .i64 k/\M4 s (Oj v.list s.list k) w wr) (fun i _=>8 - (intOf i).toNat)
          case atStart=>exact⟨0,by omega,rfl,hM⟩
          case round =>
           clear hM;obtain⟨k,hk,rfl,hM⟩:=hrel;by_cases hlt:k<8
           ·as_aux_lemma =>
             have hc0:wr.cell? ⟨w.heap.size+3,k,none⟩=some (W ((Oj v.list s.list k).getD k 0)):=by rw[hM.2.2.1.cell];exact Za4 _ _ (by rw[Zia];exact hlt)
             have hc1:wr.cell? ⟨w.heap.size,k,none⟩=some (W (s.list.getD k 0)):=by rw[hM.1.cell];exact Za4 s.list _ hlt
             have hf0:=hM.2.2.1.frozen k;go_wp2;refine Ye 8 (by kernel_rfl) (by kernel_rfl) ?_;simp only[lF,lG,lH,lI];repeat (go_big_quiet_step (fail))
             refine lC ?_;rintro _ ⟨nq,rfl⟩;go_wp2;go_roundw
             case rel =>
              refine⟨k+1,by omega,by go_num,?_⟩;exact Zic hM nq k _
             case measure=>simp[intOf];omega
           ·as_aux_lemma =>
             obtain rfl:k=8:=by omega
             have hz:Oj v.list s.list 8=(Ul s blk).list:=by rw[hv.out];exact Zib _ _
             obtain⟨mm,hmm⟩:∃ mm,mm=Ul s blk:=⟨_,rfl⟩;rw[hz,<-hmm] at hM;replace hmm:=iD hmm;replace hz:=iD hz;go_wp2_with (first
              | (refine Y0 rfl 281 (.tmp 10) rfl (w.heap.size+3) rfl 281 (mm.list.map W) hM.2.2.1 (.array 8 279) underlying281 rfl (by kernel_rfl) ?_)
              | (refine Zo rfl 281 (.tmp 4) (.tmp 184) rfl (w.heap.size+1) (mm.list.map W) rfl rfl 281 Z1k hM.2.1 rfl (by kernel_rfl) (Z5r _) ?_))
             refine Z0q Tryz.results186 (w.heap.size+1) 281 (mm.list.map W) (.array 8 279) rfl (hM.2.1.setRow_same _) underlying281 rfl (by kernel_rfl) rfl ?_;exact⟨by rw[hmm.out];rfl,below_setRow hM.2.2.2 (by omega) _⟩
end
section
set_option maxHeartbeats 400000
set_option maxRecDepth 100000
open Go.Proofs.Tryz
open Go.RowKit
def Yg(made:Bool)(s:St)(rest:List UInt8)(n:Nat):List Value:=.bool made :: (s.cells++(rest.map B++[.int .i64 (n:Int)]))
theorem Zie(w:World) :
  Calls lB 185 #[] w fun e w'=>e=.returned (.agg st0.cells.toArray)/\Below w.heap.size w w':=by
 go_enter func185,ntmps185;go_wp2;refine bodyPost_ret (v:=.agg st0.cells.toArray) (by simp[results,Tryz.results185,go_sem];rfl) rfl ⟨rfl,bL⟩
theorem Zif(w:World) :
  Calls lB 113 #[] w fun e w'=>∃ g,e=.returned (.pointer (some ⟨g,0,none⟩))/\w.heap.size<=g/\Blk w' g 285 (Yg true st0 (lA 64 0) 0)/\Below w.heap.size w w':=by
 go_enter func113,ntmps113;go_wp2_with (first
  | (go_at_call 185;refine (Zie _).mono ?_;rintro e w1 ⟨rfl,hb1⟩)
  | (refine G4 (.build 285 #[(0,.const (.bool true)),(1,.tmp 1)]) rfl rfl (.agg (Yg true st0 (lA 64 0) 0).toArray) (by kernel_rfl) ?_))
 go_ret;exact⟨_,rfl,hb1.size,Blk.new_at rfl,hb1.alloc hb1.size _⟩
end
section
open Go.RowKit
def Kd(msg:List UInt8):Nat->St
 | 0=>st0
 | k+1=>Ul (Kd msg k) ((msg.drop (64*k)).take 64)
theorem Za5(msg more:List UInt8)(k:Nat)(h:64*k<=msg.length):Kd (msg++more) k=Kd msg k:=by
 induction k with
 | zero=>rfl
 | succ k ih =>
  have h1:64*k<=msg.length:=by omega
  rw[Kd,Kd,ih h1]
  congr 1
  rw[lP h1,lQ (by simp;omega)]
def U3(w:World)(g:Nat)(msg:List UInt8):Prop :=
 ∃ rest:List UInt8,rest.length=64/\rest.take (msg.length % 64)=msg.drop (64*(msg.length / 64)) /\
  Blk w g 285 (Yg true (Kd msg (msg.length / 64)) rest msg.length)
theorem Zig{w:World}{g:Nat}(h:Blk w g 285 (Yg true st0 (lA 64 0) 0)):U3 w g [] :=
 ⟨lA 64 0,by simp,by simp,h⟩
theorem Za6(msg piece rest:List UInt8)(hr:rest.length=64)(ht:rest.take (msg.length % 64)=msg.drop (64*(msg.length / 64))) :
  (splice rest (msg.length % 64) piece).take (msg.length % 64+piece.length)=(msg++piece).drop (64*(msg.length / 64)):=by
 have h1:64*(msg.length / 64)<=msg.length:=by omega
 rw[lP h1,<-ht];unfold splice;rw[<-lJ,lQ (by simp;omega)];exact lR (by simp;omega)
theorem Z0c(rest piece:List UInt8)(o:Nat)(hr:rest.length=64)(hp:o+piece.length<=64):(splice rest o piece).length=64:=by
 rw[length_splice _ _ _ (by omega)];exact hr
theorem Zih(made:Bool)(s:St)(rest piece:List UInt8)(n o:Nat)(hr:rest.length=64)(hp:o+piece.length<=64) :
  splice (Yg made s rest n) (9+o) (piece.map B)=Yg made s (splice rest o piece) n:=by
 unfold Yg;have hs:s.cells.length=8:=rfl;have e:∀ X:List Value,splice (.bool made :: (s.cells++X)) (9+o) (piece.map B)=.bool made :: (s.cells++splice X o (piece.map B)):=by
  intro X;unfold splice;rw[show 9+o=(8+o)+1 by omega,lF,<-hs,List.take_length_add_append,List.cons_append,lJ]
  congr 3
  rw[show s.cells.length+o+1+(piece.map B).length=(s.cells.length+(o+(piece.map B).length))+1 by omega,lH,List.drop_length_add_append]
 rw[e]
 congr 2
 unfold splice;rw[lQ (by simp;omega),lS,lS,lW,lJ,lJ,lP (by simp;omega),lE,lX]
theorem Za7(made:Bool)(s:St)(rest:List UInt8)(n m:Nat)(hr:rest.length=64):(Yg made s rest n).set 73 (.int .i64 (m:Int))=Yg made s rest m:=by
 unfold Yg;have hs:s.cells.length=8:=rfl;rw[List.set_cons_succ,lO _ _ (by omega),lO _ _ (by simp;omega)];simp[hr,hs]
theorem Zii(made:Bool)(s s':St)(rest:List UInt8)(n:Nat):splice (Yg made s rest n) 1 s'.cells=Yg made s' rest n:=rfl
theorem Z5t(made:Bool)(s:St)(rest:List UInt8)(n:Nat)(hr:rest.length=64):(Yg made s rest n).length=74:=by
 have hs:s.cells.length=8:=rfl;simp[Yg,hr,hs]
theorem Za8(made:Bool)(s:St)(rest:List UInt8)(n:Nat):(Yg made s rest n).drop 9=rest.map B++[.int .i64 (n:Int)]:=rfl
theorem Z5u(made:Bool)(s:St)(rest:List UInt8)(n:Nat)(hr:rest.length=64):(Yg made s rest n)[73]?=some (.int .i64 (n:Int)):=by
 have : (Yg made s rest n)[73]?=((Yg made s rest n).drop 9)[64]?:=by rw[lY]
 rw[this,Za8,lT (by simp;omega)];simp[hr]
theorem Zij{w:World}{g:Nat}{m piece rest:List UInt8}(hr:rest.length=64)(ht:rest.take (m.length % 64)=m.drop (64*(m.length / 64)))(hp:m.length % 64+piece.length<64)
  (hB:Blk w g 285 (Yg true (Kd m (m.length / 64)) (splice rest (m.length % 64) piece) (m.length+piece.length))):U3 w g (m++piece):=by
 have e1:(m++piece).length=m.length+piece.length:=lM;have e2:(m.length+piece.length) % 64=m.length % 64+piece.length:=by omega
 have e3:(m.length+piece.length) / 64=m.length / 64:=by omega
 refine⟨splice rest (m.length % 64) piece,Z0c _ _ _ hr (by omega),?_,?_⟩
 ·rw[e1,e2,e3];exact Za6 m piece rest hr ht
 ·rw[e1,e3,Za5 _ _ _ (by omega)];exact hB
theorem Zik{w:World}{g:Nat}{m piece rest:List UInt8}(hr:rest.length=64)(ht:rest.take (m.length % 64)=m.drop (64*(m.length / 64)))(hp:m.length % 64+piece.length=64)
  (hB:Blk w g 285 (Yg true (Ul (Kd m (m.length / 64)) (splice rest (m.length % 64) piece)) (splice rest (m.length % 64) piece) (m.length+piece.length))):U3 w g (m++piece):=by
 have e1:(m++piece).length=m.length+piece.length:=lM;have e2:(m.length+piece.length) % 64=0:=by omega
 have e3:(m.length+piece.length) / 64=m.length / 64+1:=by omega
 have hs:=Za6 m piece rest hr ht;have hl:=Z0c rest piece (m.length % 64) hr (by omega);rw[hp,lR (by omega)] at hs;refine⟨splice rest (m.length % 64) piece,hl,?_,?_⟩
 ·rw[e1,e2,e3];rw[lG,List.drop_of_length_le (by rw[e1];omega)]
 ·rw[e1,e3,Kd,Za5 _ _ _ (by omega),<-hs,lR (by omega)];exact hB
end
section
set_option maxRecDepth 100000
set_option maxHeartbeats 1000000
open Go.Lib renaming hid → iD
open Go.Proofs.Tryz
open Go.RowKit
def lenOf:Value->Nat | .slice _ n _=>n | _=>0
theorem Zil{w:World}{g:Nat}{msg:List UInt8}(hK:Y9 w)(hH:U3 w g msg):g ≠ 0:=by
 rintro rfl;obtain⟨r,_,_,h3⟩:=hH;have h1:=hK 0 (by omega);rw[h3.cell] at h1;simp[Yg] at h1
theorem Zim{w w':World}{g:Nat}(hK:Y9 w)(hg:g ≠ 0)(h:w.grownBy w' (some g)):Y9 w':=fun i hi =>
 h.cell (hK i hi) (by simp;exact fun e=>hg e.symm)
theorem Za9(w:World)(n g:Nat)(c:Array Value):w.grownBy ((w.drewN n).setRow g c) (some g) :=
 ⟨rfl,rfl,rfl,by simp,fun k _ hne=>setRow_other _ _ _ _ (fun e=>hne (by rw[e]))⟩
def WRel(w:World)(g:Nat)(msg xs:List UInt8)(b:Value)(wr:World):Prop :=
 ∃ (done cap:Nat) (A:Option Addr),done<=xs.length/\b=.slice A (xs.length - done) cap/\xs.length - done<=cap/\Rd wr (· ≠ g) A ((xs.drop done).map B)/\U3 wr g (msg++xs.take done)/\w.grownBy wr (some g)
theorem Zin{w w':World}{g:Nat}{A:Option Addr}{xs:List Value}(h:Rd w (· ≠ g) A xs)(hg:w.grownBy w' (some g)):Rd w' (· ≠ g) A xs:=fun hn=>by
 obtain⟨ad,e,hb,hc⟩:=h hn;refine⟨ad,e,hb,fun j u hu=>hg.cell (hc j u hu) ?_⟩;rw[Gs];simpa using hb
theorem Gc{w w1 w2:World}{g:Nat}(h1:w.grownBy w1 (some g))(h2:w1.grownBy w2 (some g)):w.grownBy w2 (some g) :=
 ⟨h2.os.trans h1.os,h2.tape.trans h1.tape,h2.output.trans h1.output,Nat.le_trans h1.size h2.size,fun k hk hne=>(h2.block k (Nat.lt_of_lt_of_le hk h1.size) hne).trans (h1.block k hk hne)⟩
theorem Zaa(w:World)(g i:Nat)(u:Value):w.grownBy (w.setCell ⟨g,i,none⟩ u) (some g) :=
 ⟨rfl,rfl,rfl,by simp,fun _ _ hne=>Below.heap_setCell _ _ _ _ (fun e=>hne (by rw[e]))⟩
theorem Zio(w:World)(g n:Nat):w.grownBy (w.drewN n) (some g):=⟨rfl,rfl,rfl,lL _,fun _ _ _=>rfl⟩
theorem Zab{w:World}{g:Nat}{msg xs:List UInt8}{done cap:Nat}{A:Option Addr}{wr W:World}{k:Nat}(hd:done+k<=xs.length)(hc:xs.length - done<=cap)
  (hR:Rd wr (· ≠ g) A ((xs.drop done).map B)) (hG:w.grownBy wr (some g)) (hG2:wr.grownBy W (some g)) (hH:U3 W g ((msg++xs.take done)++(xs.drop done).take k)) :
  WRel w g msg xs (.slice (cutA A cap k 1) (xs.length - done - k) (cap - k)) W:=by
 refine⟨done+k,cap - k,cutA A cap k 1,hd,by rw[Nat.sub_sub],by omega,?_,?_,Gc hG hG2⟩
 ·have:=Zin (hR.cutA (k:=k) (cap:=cap) (by simpa using hc)) hG2
  rwa [<- lX,List.drop_drop] at this
 ·rw[List.take_add,<-lJ];exact hH
theorem Zac(g:Nat)(msg xs:List UInt8)(A:Option Addr)(cap:Nat)(w:World)(hH:U3 w g msg)(hA:Rd w (· ≠ g) A (xs.map B))(hcap:xs.length<=cap)
    (hn:msg.length+xs.length<=4611686018427387904) (hK:Y9 w) :
    Calls lB 114 #[.pointer (some ⟨g,0,none⟩),.slice A xs.length cap] w fun e w' =>
      e=.returned (.tuple #[])/\U3 w' g (msg++xs)/\w.grownBy w' (some g):=by
  have hne:=Zil hK hH;have hc0:w.cell? ⟨g,0,none⟩=some (.bool true):=by
    obtain⟨r,_,_,h3⟩:=hH;rw[h3.cell];rfl
  go_enter func114,ntmps114;go_wp2;clear hc0;go_loopw [1] (fun b wr=>WRel w g msg xs b wr) (fun b _=>lenOf b)
  case atStart=>exact⟨0,cap,A,by omega,rfl,by omega,hA,by simpa using hH,World.grownBy.refl w _⟩
  case round =>
    obtain⟨done,cap',A',hd,rfl,hc',hR,hI,hG⟩:=hrel;by_cases hlt:done<xs.length
    · obtain⟨m,hm⟩:∃ m,m=msg++xs.take done:=⟨_,rfl⟩
      obtain⟨ys,hys⟩:∃ ys,ys=xs.drop done:=⟨_,rfl⟩;have hyl:ys.length=xs.length - done:=by rw[hys,List.length_drop]
      have hmn:m.length+ys.length<=4611686018427387904:=by rw[hm,hyl,lM,lD];omega
      have hypos:0<ys.length:=by omega
      rw[<-hyl] at hc' ⊢;rw[<-hys] at hR;rw[<-hm] at hI;replace hyl:=iD hyl;replace hm:=iD hm;replace hys:=iD hys;obtain⟨rest,hr,ht,hB⟩:=hI;obtain⟨k,hk⟩:∃ k,k=min ys.length (64 - m.length % 64):=⟨_,rfl⟩;have hk0:0<k:=by omega
      have hk1:k<=ys.length:=by omega
      have hk2:m.length % 64+k<=64:=by omega
      have hc73:wr.cell? ⟨g,73,none⟩=some (.int .i64 (m.length:Int)):=by rw[hB.cell];exact Z5u _ _ _ _ hr
      obtain⟨o,ho⟩:∃ o,o=m.length % 64:=⟨_,rfl⟩;have hoI:(m.length:Int) % 64=(o:Int):=by omega
      have ho63:o<=63:=by omega
      rw[<-ho] at hk hk2;replace ho:=iD ho;obtain⟨ad,rfl,hadg,hcell⟩:=hR (by simpa using hypos);have hsrc:∀ j v,((ys.take k).map B)[j]?=some v->wr.cell? (ad.add j)=some v:=fun j v hv=>hcell j v (by
        rw[lW,List.getElem?_take] at hv;split at hv
        · exact hv
        · cases hv)
      replace hcell:=iD hcell;replace hsrc:=iD hsrc;replace hr:=iD hr;replace ht:=iD ht;replace hk:=iD hk;go_wp2;refine Ye 10 (by kernel_rfl) (by kernel_rfl) ?_;simp only[lF,lG,lH,lI];repeat (first
        | (refine Zef 283 (.tmp 19) (.tmp 24) rfl rfl 5 64 underlying283 (by kernel_rfl) g 9 o _ rfl rfl hoI (by omega) ?_
           go_frame)
        | go_big_quiet_step (fail))
      refine lC ?_;rintro _ ⟨nq,rfl⟩;have hlk2:((ys.take k).map B).length=Nat.min ys.length (64 - o):=by
        rw[lE,lD,hk.out];show min (min ys.length (64 - o)) ys.length=min ys.length (64 - o);omega
      refine Z7o rfl (.tmp 25) (.tmp 26) 99 99 rfl 5 underlying99 (by kernel_rfl) g (9+o) (64 - o) (64 - o) ad ys.length cap' rfl rfl _ 285 (hB.drewN nq)
        ((ys.take k).map B) hlk2 hsrc.out (by rw[Z5t _ _ _ _ hr.out,lE,lD];omega) (Yk _) ?_
      have hB2:Blk ((wr.drewN nq).setRow g (splice (Yg true (Kd m (m.length / 64)) rest m.length) (9+o) ((ys.take k).map B)).toArray) g 285 (Yg true (Kd m (m.length / 64)) (splice rest o (ys.take k)) m.length):=by
        rw[Zih _ _ _ _ _ _ hr.out (by rw[lD];omega)];exact (hB.drewN nq).setRow_same _
      have hG2:wr.grownBy ((wr.drewN nq).setRow g (splice (Yg true (Kd m (m.length / 64)) rest m.length) (9+o) ((ys.take k).map B)).toArray) (some g):=Za9 _ _ _ _;have hlk:((ys.take k).map B).length=k:=by rw[lE,lD];omega
      rw[hlk];generalize (wr.drewN nq).setRow g _=wr2 at hB2 hG2 ⊢;clear hlk hlk2 hc73;go_frame;have hc73:wr2.cell? ⟨g,73,none⟩=some (.int .i64 (m.length:Int)):=by rw[hB2.cell];exact Z5u _ _ _ _ (Z0c _ _ _ hr.out (by rw[lD];omega))
      have hf73:=hB2.frozen 73;have hpl:(ys.take k).length=k:=by rw[lD];omega
      replace hpl:=iD hpl;by_cases hz:(m.length+k) % 64=0
      · have hzb:(((m.length:Int)+(k:Int)) % 64 == 0)=true:=by rw[beq_iff_eq];omega
        replace hz:=iD hz;go_wp2_with (refine Z7r rfl 99 (.tmp 36) (.tmp 37) rfl 5 1 underlying99 (by kernel_rfl) (some ad) ys.length cap' k rfl rfl hk1 ?_);have hB3:=hB2.set_ 73 (.int .i64 ((m.length:Int)+(k:Int)));rw[<-lN,Za7 _ _ _ _ _ (Z0c _ _ _ hr.out (by rw[hpl.out];omega))] at hB3;rw[<-lN];have hG3:=Gc hG2 (Zaa wr2 g 73 (.int .i64 ((m.length+k:Nat):Int)));generalize wr2.setCell _ _=wr3 at hB3 hG3 ⊢;clear hc73 hf73 hB2 hG2 hzb;obtain⟨rest2,hrest2⟩:∃ r,r=splice rest o (ys.take k):=⟨_,rfl⟩;rw[<-hrest2] at hB3;have hl2:rest2.length=64:=by rw[hrest2];exact Z0c _ _ _ hr.out (by rw[hpl.out];omega)
        replace hl2:=iD hl2;replace hrest2:=iD hrest2;obtain⟨st,hst⟩:∃ st,st=Kd m (m.length / 64):=⟨_,rfl⟩;rw[<-hst] at hB3;replace hst:=iD hst;refine Z87 (C:=fun w'=>∃ n,w'=wr3.drewN n) [0,1,2,3,5,6,7,8] [4] 9 [10,11,12] (by kernel_rfl) (by kernel_rfl) (fun _ d _ _ _ h=>by cases d <;> exact h) ⟨1,rfl⟩ ?_;simp only[Zj,List.map_cons,List.map_nil,Yw,Ys];repeat (go_big_quiet_step (fail))
        refine lC ?_;repeat (first
          | (refine Yf 281 (.tmp 48) rfl rfl g 1 rfl 285 (Yg true st rest2 (m.length+k)) st.cells (rest2.map B++[.int .i64 ((m.length+k:Nat):Int)]) (fun w hw=>?_) rfl (.array 8 279) underlying281 rfl (by kernel_rfl) ?_
             · obtain⟨n,rfl⟩:=hw
               exact hB3.drewN n
             go_frame)
          | go_big_quiet_step (fail))
        refine lC ?_;rintro _ ⟨nq2,rfl⟩;replace hB3:=hB3.drewN nq2;replace hG3:=Gc hG3 (Zio wr3 g nq2);generalize wr3.drewN nq2=wr4 at hB3 hG3 ⊢;have hK4:=Zim hK hne (Gc hG hG3);have hcs:∀ i,i<64->wr4.cell? ⟨g,9+i,none⟩=some (B (rest2.getD i 0)):=fun i hi=>by
          have h1:(Yg true st rest2 (m.length+k))[9+i]?=((Yg true st rest2 (m.length+k)).drop 9)[i]?:=by rw[lY]
          have h2:i<rest2.length:=by rw[hl2.out];exact hi
          rw[hB3.cell,h1,Za8,lU (by simpa using h2)];simp[h2]
        replace hcs:=iD hcs;have hfit:1+(Ul st rest2).cells.length<=(Yg true st rest2 (m.length+k)).length:=by rw[Z5t _ _ _ _ hl2.out];exact (by decide:1+8<=74)
        replace hfit:=iD hfit;go_wp2_with (first
          | (go_at_call 186;refine (Zid st g 9 64 rest2 _ hB3.lt hcs.out hK4).mono ?_;rintro e w5 ⟨rfl,hb5⟩)
          | (refine Z7n rfl 281 (.tmp 56) (.tmp 54) rfl g 1 (Ul st rest2).cells rfl rfl 285 (Yg true st rest2 (m.length+k)) (hB3.below hb5 hB3.lt) hfit.out (by kernel_rfl) (Z5r _) ?_))
        go_frame;go_roundw
        case rel =>
          have hB5:=hB3.below hb5 hB3.lt;have hG5:wr.grownBy (w5.setRow g (splice (Yg true st rest2 (m.length+k)) 1 (Ul st rest2).cells).toArray) (some g):=Gc (Gc hG3 (Z4d hb5)) (Za9 w5 0 _ _);have hB6:=hB5.setRow_same (splice (Yg true st rest2 (m.length+k)) 1 (Ul st rest2).cells);rw[Zii] at hB6;rw[hyl.out] at hc' ⊢;rw[hys.out] at hR;refine Zab (k:=k) (done:=done) (by have:=hyl.out;omega) hc' hR hG hG5 ?_;rw[<-hys.out,<-hm.out];have hp:=hpl.out;have hz1:=hz.out;have ho1:=ho.out;refine Zik hr.out ht.out (by omega) ?_;rw[hp,<-ho1,<-hrest2.out,<-hst.out];exact hB6
        case measure=>simp[lenOf];omega
      · have hzb:(((m.length:Int)+(k:Int)) % 64 == 0)=false:=by rw[beq_eq_false_iff_ne];omega
        replace hz:=iD hz;go_wp2_with (refine Z7r rfl 99 (.tmp 36) (.tmp 37) rfl 5 1 underlying99 (by kernel_rfl) (some ad) ys.length cap' k rfl rfl hk1 ?_);go_roundw
        case rel =>
          have hB3:=hB2.set_ 73 (.int .i64 ((m.length:Int)+(k:Int)));rw[<-lN,Za7 _ _ _ _ _ (Z0c _ _ _ hr.out (by rw[hpl.out];omega))] at hB3;rw[<-lN];rw[hyl.out] at hc' ⊢;rw[hys.out] at hR;refine Zab (k:=k) (done:=done) (by have:=hyl.out;omega) hc' hR hG (Gc hG2 (Zaa _ _ _ _)) ?_;rw[<-hys.out,<-hm.out];have hp:=hpl.out;have hz1:=hz.out;have ho1:=ho.out;refine Zij hr.out ht.out (by omega) ?_;rw[hp,<-ho1];exact hB3
        case measure=>simp[lenOf];omega
    · obtain rfl:done=xs.length:=by omega
      go_wp2;go_end0;refine⟨rfl,by simpa using hI,hG⟩
end
section
set_option maxRecDepth 100000
set_option maxHeartbeats 4000000
open Go.Lib renaming hid → iD
open Go.Proofs.Tryz
open Go.RowKit
def Un(n:Nat):Nat:=(64 - (n+9) % 64) % 64
def Z0d(n i:Nat):UInt8:=UInt8.ofNat (n*8 / 2 ^ (56 - 8*i))
def U4(n j:Nat):List UInt8:=(128 :: lA (Un n) 0)++(List.range j).map (Z0d n)
def Uo(n:Nat):List UInt8:=U4 n 8
def Z1m:List Value:=Yg false ⟨0,0,0,0,0,0,0,0⟩ (lA 64 0) 0
theorem Zip:(lB.info? 285).map (fun i=>(i.zero,i.size))=some (some (.agg Z1m.toArray),74):=by kernel_rfl
def Z3b:List Value:=lA 128 (B 0)
theorem Ziq(w:World):(Instr.makeSlice 99 (.int .i64 1) (.int .i64 128)).run lB w=.ok (.slice (some ⟨w.heap.size,0,none⟩) 1 128) (w.alloc (.cells Z3b.toArray 5)):=by kernel_rfl
theorem Zir:Z3b[0]?=some (B 0):=rfl
theorem Zis(made:Bool)(s:St)(rest:List UInt8)(n:Nat):∀ v ∈ Yg made s rest n,v.oneCell'=true:=by
 intro v hv;simp only[Yg,List.mem_cons,List.mem_append] at hv;rcases hv with rfl | hv | hv | hv | hv
 ·rfl
 ·exact Z5r _ v hv
 ·exact Yk _ v hv
 ·rw[hv];rfl
 ·cases hv
def HS(w:World)(cs:List Value)(v:Value)(xs:List UInt8)(wr:World):Prop :=
 Blk wr w.heap.size 47 Z3/\Blk wr (w.heap.size+1) 47 Z3/\Blk wr (w.heap.size+1+1) 285 cs /\
 wr.ownsRow (w.heap.size+3) 5 1 v xs.length (xs.map B)/\Below w.heap.size w wr/\w.heap.size+3<=wr.heap.size
theorem Zit{w:World}{g:Nat}{o:Obj}(h:g=w.heap.size):(w.alloc o).heap[g]?=some o:=by subst h;exact heap_alloc_new w _
theorem Ziu(w:World)(cs:List Value):HS w cs (.slice (some ⟨w.heap.size+1+1+1,0,none⟩) 1 128) [128]
  (((((w.alloc (.cells Z3.toArray 47)).alloc (.cells Z3.toArray 47)).alloc (.cells Z1m.toArray 285)).setRow (w.heap.size+1+1) cs.toArray).alloc (.cells (Z3b.set 0 (.int .u8 128)).toArray 5)):=by
 have h0:Blk ((w.alloc (.cells Z3.toArray 47)).alloc (.cells Z3.toArray 47)) w.heap.size 47 Z3:=(Blk.new_at rfl).alloc _;have h1:Blk ((w.alloc (.cells Z3.toArray 47)).alloc (.cells Z3.toArray 47)) (w.heap.size+1) 47 Z3:=Blk.new_at (by simp);have hb:Below w.heap.size w ((w.alloc (.cells Z3.toArray 47)).alloc (.cells Z3.toArray 47)):=bL.alloc (by simp) _;have hs:((w.alloc (.cells Z3.toArray 47)).alloc (.cells Z3.toArray 47)).heap.size=w.heap.size+1+1:=by simp
 generalize (w.alloc (.cells Z3.toArray 47)).alloc (.cells Z3.toArray 47)=W at *;have h2:Blk (W.alloc (.cells Z1m.toArray 285)) (w.heap.size+1+1) 285 Z1m:=Blk.new_at hs.symm;refine⟨((h0.alloc _).setRow_far (by omega) _).alloc _,((h1.alloc _).setRow_far (by omega) _).alloc _,(h2.setRow_same cs).alloc _,⟨rfl,.inr ⟨w.heap.size+3,128,(Z3b.set 0 (.int .u8 128)).toArray,rfl,lL _,?_,by decide,by decide,rfl,rfl⟩⟩,?_,by simp[hs]⟩
 ·exact Zit (by simp[hs])
 ·exact (below_setRow (hb.alloc (by omega) _) (by omega) _).alloc (by simp[hs];omega) _
theorem Zad{w wr w':World}{cs:List Value}{v v':Value}{xs:List UInt8}{x:UInt8}{o:Obj}(h:HS w cs v xs wr)(hown:w'.ownsRow (w.heap.size+3) 5 1 v' (xs.length+1) (xs.map B++[B x]))(hg:(wr.alloc o).grownBy w' v.ownBlock):HS w cs v' (xs++[x]) w':=by
 obtain⟨h1,h2,h3,h4,h5,h6⟩:=h;have hb:Below (w.heap.size+3) (wr.alloc o) w':=Yd (h4.alloc o) hg (by simp;omega);refine⟨(h1.alloc o).below hb (by omega),(h2.alloc o).below hb (by omega),(h3.alloc o).below hb (by omega),?_,(h5.alloc (by omega) o).trans (hb.mono (by omega)),?_⟩
 ·rw[lS,lM];exact hown
 ·have:=hg.size;simp at this;omega
def Ziv(x:UInt32):List UInt8:=[w2b (shr x 24),w2b (shr x 16),w2b (shr x 8),w2b x]
def Gd(s:St):List UInt8:=s.list.flatMap Ziv
def Ge(msg:List UInt8):List UInt8:=Gd (Kd (msg++Uo msg.length) ((msg++Uo msg.length).length / 64))
def dk(s:St)(k:Nat):List UInt8:=(Gd s).take (4*k)++lA (32 - 4*k) 0
theorem Ziw(s:St)(k:Nat)(hk:k<8):(((((dk s k).map B).set (4*k) (B (w2b (shr (s.list.getD k 0) 24)))).set (4*k+1) (B (w2b (shr (s.list.getD k 0) 16)))).set (4*k+2) (B (w2b (shr (s.list.getD k 0) 8)))).set (4*k+3) (B (w2b (s.list.getD k 0)))=(dk s (k+1)).map B:=by
 match k,hk with
 | 0,_=>rfl
 | 1,_=>rfl
 | 2,_=>rfl
 | 3,_=>rfl
 | 4,_=>rfl
 | 5,_=>rfl
 | 6,_=>rfl
 | 7,_=>rfl
theorem Zix(s:St)(k:Nat)(hk:k<=8):(dk s k).length=32:=by
 have : (Gd s).length=32:=rfl;simp[dk,this];omega
theorem dk_8(s:St):dk s 8=Gd s:=rfl
theorem Ziy(n k:Nat):((n:Int)*8 / 2 ^ (56 - 8*k)) % 256=bv (Z0d n k):=by
 unfold bv Z0d;simp
theorem Ziz(n k:Nat):U4 n (k+1)=U4 n k++[Z0d n k]:=by
 simp[U4,List.range_succ]
theorem Zj0(n k:Nat):(U4 n k).length=Un n+1+k:=by simp[U4];omega
theorem keys_below{w w':World}(hK:Y9 w)(h:Below w.heap.size w w'):Y9 w':=fun i hi=>by
 have:=hK i hi;rw[h.cell (p:=⟨_,_,none⟩) (lV _ _ this)];exact this
theorem Zj1(st:St)(k:Nat)(hk:k<8)(w:World):(lZ 281 (.agg st.cells.toArray) (.int .i64 (k:Int))).run lB w=.ok (W (st.list.getD k 0)) w:=by
 obtain rfl | rfl | rfl | rfl | rfl | rfl | rfl | rfl:k=0 ∨ k=1 ∨ k=2 ∨ k=3 ∨ k=4 ∨ k=5 ∨ k=6 ∨ k=7:=by omega
 all_goals kernel_rfl
def HD(w:World)(st:St)(k:Nat)(wr:World):Prop :=
 Blk wr w.heap.size 47 Z3/\Blk wr (w.heap.size+1) 47 ((dk st k).map B)/\Below w.heap.size w wr
theorem Z3c{w wr:World}{st:St}{k:Nat}(h:HD w st k wr)(hk:k<8)(i:Nat)(hi:i<32):∃ v,wr.cell? ⟨w.heap.size+1,i,none⟩=some v:=by
 rw[h.2.1.cell];have hl:i<((dk st k).map B).length:=by rw[lE,Zix _ _ (by omega)];exact hi
 exact⟨_,List.getElem?_eq_getElem hl⟩
theorem Zj2{w wr:World}{st:St}{k:Nat}(h:HD w st k wr)(hk:k<8) :
  HD w st (k+1) ((((wr.setCell ⟨w.heap.size+1,4*k,none⟩ (B (w2b (shr (st.list.getD k 0) 24)))).setCell ⟨w.heap.size+1,4*k+1,none⟩ (B (w2b (shr (st.list.getD k 0) 16)))).setCell
   ⟨w.heap.size+1,4*k+2,none⟩ (B (w2b (shr (st.list.getD k 0) 8)))).setCell ⟨w.heap.size+1,4*k+3,none⟩ (B (w2b (st.list.getD k 0)))):=by
 obtain⟨h1,h2,h3⟩:=h;have h2':=(((h2.set_ (4*k) (B (w2b (shr (st.list.getD k 0) 24)))).set_ (4*k+1) (B (w2b (shr (st.list.getD k 0) 16)))).set_ (4*k+2) (B (w2b (shr (st.list.getD k 0) 8)))).set_ (4*k+3) (B (w2b (st.list.getD k 0)));rw[Ziw st k hk] at h2';exact⟨(((h1.far (by simp) _).far (by simp) _).far (by simp) _).far (by simp) _,h2',(((h3.setCell (by simp) _).setCell (by simp) _).setCell (by simp) _).setCell (by simp) _⟩
attribute [local go_sem] Zev Zeu shr_8 Zeq Ziy
theorem Zj3(g:Nat)(msg:List UInt8)(w:World)(hH:U3 w g msg)(hn:msg.length<=281474976710656)(hK:Y9 w) :
    Calls lB 115 #[.pointer (some ⟨g,0,none⟩)] w fun e w' =>
      e=.returned (.agg ((Ge msg).map B).toArray)/\Below w.heap.size w w':=by
  obtain⟨rest,hr,ht,hB⟩:=hH;have hc0:w.cell? ⟨g,0,none⟩=some (.bool true):=by rw[hB.cell];rfl
  have hlt:=hB.lt;have hz:=(zero_of_info Z4k).1;have hzH:=(zero_of_info Zip).1;obtain⟨cs,hcs⟩:∃ cs,cs=Yg true (Kd msg (msg.length / 64)) rest msg.length:=⟨_,rfl⟩;have hcl:cs.length=74:=by rw[hcs];exact Z5t _ _ _ _ hr
  have hc1:∀ v ∈ cs,v.oneCell'=true:=by rw[hcs];exact Zis _ _ _ _
  have h73:w.cell? ⟨g,73,none⟩=some (.int .i64 (msg.length:Int)):=by rw[hB.cell];exact Z5u _ _ _ _ hr
  rw[<-hcs] at hB;have hsz:(lB.info? 285).map (·.size)=some cs.length:=by rw[hcl];kernel_rfl
  replace hcs:=iD hcs;replace hr:=iD hr;replace ht:=iD ht;replace hsz:=iD hsz;replace hcl:=iD hcl;replace hc1:=iD hc1;replace h73:=iD h73;have hmk:=Ziq;have hz0:=Zir;go_enter func115,ntmps115;go_wp2_with (first
    | (refine Y0 rfl 285 (.tmp 20) rfl g rfl 285 cs ((hB.alloc _).alloc _) _ underlying285 rfl hsz.out ?_)
    | (refine Zo rfl 285 (.tmp 4) (.tmp 21) rfl (w.heap.size+1+1) cs rfl rfl 285 Z1m (Blk.new_at (by simp)) (by rw[hcl.out];rfl) hsz.out hc1.out ?_))
  have hS:=Ziu w cs;clear hz hzH hmk hz0 hc0;generalize World.alloc (World.setRow _ _ _) _=w0 at hS ⊢;go_loopw [5] (fun v wr=>∃ j,j<=Un msg.length/\HS w cs v (128 :: lA j 0) wr) (fun v _=>200 - lenOf v)
  case atStart=>exact⟨0,Nat.zero_le _,hS⟩
  case round =>
    obtain⟨j,hj,hS⟩:=hrel;obtain⟨xs,hxs⟩:∃ xs,xs=(128:UInt8) :: lA j 0:=⟨_,rfl⟩;have hxl:xs.length=j+1:=by rw[hxs];simp
    rw[<-hxs] at hS;obtain⟨A,cap,rfl,hcap,hcap2⟩:=Z6 hS.2.2.2.1;have hpz:Un msg.length<64:=by unfold Un;omega
    have hxb:xs.length<=64:=by omega
    have hc73:wr.cell? ⟨g,73,none⟩=some (.int .i64 (msg.length:Int)):=by rw[hS.2.2.2.2.1.cell (p:=⟨g,73,none⟩) hlt];exact h73.out
    by_cases hlt2:j<Un msg.length
    · have htb:(((msg.length:Int)+(xs.length:Int)+8) % 64 != 0)=true:=by
        rw[bne_iff_ne];unfold Un at hlt2;omega
      replace hxl:=iD hxl;replace hxs:=iD hxs;go_wp2_with (at_builtin;refine X0 _ rfl (.tmp 35) (.tmp 36) 99 rfl (w.heap.size+3) 5 (B 0) 1 1 underlying99 Z2f (.slice A xs.length cap) xs.length (xs.map B) rfl (hS.2.2.2.1.alloc _) (· = wr.heap.size) (some ⟨wr.heap.size,0,none⟩) 1 1 [B 0] rfl rfl (Rd.of_blk (Blk.new_at rfl) rfl rfl) (by simp[lK]) (by unfold maxLen;omega) (by omega) (by have:=hS.2.2.2.2.2;simp;omega) ?_;intro v' w' hown' hg' _);go_roundw
      case rel =>
        refine⟨j+1,hlt2,?_⟩;have:=Zad hS hown' hg';rw[hxs.out] at this;rw[List.replicate_succ'];exact this
      case measure =>
        obtain⟨A',cap',rfl,_,_⟩:=Z6 hown';simp[lenOf];omega
    · have htb:(((msg.length:Int)+(xs.length:Int)+8) % 64 != 0)=false:=by
        rw[bne_eq_false_iff_eq];unfold Un at hlt2 hj;omega
      have hxp:xs=U4 msg.length 0:=by
        obtain rfl:j=Un msg.length:=by omega
        rw[hxs];simp[U4]
      rw[hxp] at hS;obtain⟨w1,rfl⟩:∃ w1:World,w1=wr:=⟨_,rfl⟩;replace hxl:=iD hxl;replace hxs:=iD hxs;replace hxp:=iD hxp;go_wp2;clear hc73;go_loopw [38,5] (fun i v wr=>∃ k:Nat,k<=8/\i=.int .i64 (k:Int)/\HS w cs v (U4 msg.length k) wr) (fun i _ _=>8 - (intOf i).toNat)
      case atStart =>
        refine⟨0,by omega,rfl,?_⟩;rw[hxp.out];exact hS
      case round =>
        clear hS;obtain⟨k,hk,rfl,hS⟩:=hrel;obtain⟨ys,hys⟩:∃ ys,ys=U4 msg.length k:=⟨_,rfl⟩;have hyl:ys.length<=72:=by rw[hys,Zj0];omega
        rw[<-hys] at hS;obtain⟨A1,cap1,rfl,hcap3,hcap4⟩:=Z6 hS.2.2.2.1;replace hys:=iD hys;have hc73:wr.cell? ⟨g,73,none⟩=some (.int .i64 (msg.length:Int)):=by rw[hS.2.2.2.2.1.cell (p:=⟨g,73,none⟩) hlt];exact h73.out
        by_cases hlt3:k<8
        · go_wp2_with (at_builtin;refine X0 _ rfl (.tmp 41) (.tmp 53) 99 rfl (w.heap.size+3) 5 (B 0) 1 1 underlying99 Z2f (.slice A1 ys.length cap1) ys.length (ys.map B) rfl (hS.2.2.2.1.alloc _) (· = wr.heap.size) (some ⟨wr.heap.size,0,none⟩) 1 1 [B (Z0d msg.length k)] rfl rfl (Rd.of_blk (cs:=[B (Z0d msg.length k)]) (r:=[]) (Blk.new_at rfl) rfl rfl) (by simp[lK]) (by unfold maxLen;omega) (by omega) (by have:=hS.2.2.2.2.2;simp;omega) ?_;intro v' w' hown' hg' _)
          go_roundw
          case rel =>
            refine⟨k+1,by omega,by go_num,?_⟩;have:=Zad hS hown' hg';rw[hys.out,<-Ziz] at this;exact this
          case measure=>simp[intOf];omega
        · obtain⟨k8,hk8⟩:∃ k8,k8=k:=⟨_,rfl⟩
          rw[<-hk8] at hlt3 hk ⊢;have hyp:ys=Uo msg.length:=by rw[hys.out,show k=8 by omega];rfl
          rw[hyp] at hS;have hge8:8<=k8:=by omega
          obtain⟨w2,rfl⟩:∃ w2:World,w2=wr:=⟨_,rfl⟩;replace hyp:=iD hyp;clear hk8;have hHI:U3 w2 (w.heap.size+1+1) msg:=⟨rest,hr.out,ht.out,by rw[<-hcs.out];exact hS.2.2.1⟩;have hRd:Rd w2 (· ≠ w.heap.size+1+1) A1 ((Uo msg.length).map B):=by
            have:=Ua hS.2.2.2.1;exact this.weak (fun b _ hb=>by omega)
          have hK2:Y9 w2:=keys_below hK hS.2.2.2.2.1;have hpl:(Uo msg.length).length=ys.length:=by rw[hyp.out]
          have hwr:=Zac (w.heap.size+1+1) msg (Uo msg.length) A1 cap1 w2 hHI hRd (by rw[hpl];exact hcap3) (by rw[hpl];omega) hK2;rw[hpl] at hwr;replace hpl:=iD hpl;replace hwr:=iD hwr;clear hc73;obtain⟨st3,hst3⟩:∃ s,s=Kd (msg++Uo msg.length) ((msg++Uo msg.length).length / 64):=⟨_,rfl⟩;replace hst3:=iD hst3;have hcell45:∀ (st:St) (k:Nat),k<8->∀ w,(lZ 281 (.agg st.cells.toArray) (.int .i64 (k:Int))).run lB w=.ok (W (st.list.getD k 0)) w:=Zj1;replace hcell45:=iD hcell45;go_wp2_with (first
            | (go_at_call 114
               refine hwr.out.mono ?_;rintro e w3 ⟨rfl,⟨rest3,hr3,ht3,hB3⟩,hG3⟩;rw[<-hst3.out] at hB3;generalize (msg++Uo msg.length).length=n3 at hB3 ht3;replace hr3:=iD hr3;clear ht3)
            | (refine K3 rfl 281 (.tmp 58) rfl (w.heap.size+1+1) 1 rfl 285 (Yg true st3 rest3 n3) st3.cells (rest3.map B++[.int .i64 (n3:Int)]) hB3 rfl _ underlying281 rfl (by kernel_rfl) ?_))
          have hM:HD w st3 0 w3:=⟨(hS.1).grown hG3 (by simp;omega),(hS.2.1).grown hG3 (by simp),hS.2.2.2.2.1.trans (Z7p hG3 (by have:=hS.2.2.2.2.2;omega) (by omega))⟩;clear hS hHI hRd hK2 hG3 hB3;go_loopw [60] (fun i wr=>∃ k:Nat,k<=8/\i=.int .i64 (k:Int)/\HD w st3 k wr) (fun i _=>8 - (intOf i).toNat)
          case atStart=>exact⟨0,by omega,rfl,hM⟩
          case round =>
            clear hM;obtain⟨k,hk9,rfl,hM⟩:=hrel;by_cases hlt4:k<8
            · have hidx:=hcell45.out st3 k hlt4
              obtain⟨d0,hd0⟩:=Z3c hM hlt4 (4*k) (by omega);obtain⟨d1,hd1⟩:=Z3c hM hlt4 (4*k+1) (by omega);obtain⟨d2,hd2⟩:=Z3c hM hlt4 (4*k+2) (by omega);obtain⟨d3,hd3⟩:=Z3c hM hlt4 (4*k+3) (by omega);have hf0:=hM.2.1.frozen (4*k);have hf1:=hM.2.1.frozen (4*k+1);have hf2:=hM.2.1.frozen (4*k+2);have hf3:=hM.2.1.frozen (4*k+3);go_wp2;go_roundw
              case rel=>exact⟨k+1,by omega,by go_num,Zj2 hM hlt4⟩
              case measure=>simp[intOf];omega
            · obtain rfl:k=8:=by omega
              have hM2:=hM.2.1;rw[dk_8] at hM2;go_wp2_with (first
                | (refine Y0 rfl 47 (.tmp 3) rfl (w.heap.size+1) rfl 47 ((Gd st3).map B) hM2 _ underlying47 rfl (by kernel_rfl) ?_)
                | (refine Zo rfl 47 (.tmp 2) (.tmp 91) rfl w.heap.size ((Gd st3).map B) rfl rfl 47 Z3 hM.1 rfl (by kernel_rfl) (Yk _) ?_))
              refine Z0q Tryz.results115 w.heap.size 47 ((Gd st3).map B) _ rfl (hM.1.setRow_same _) underlying47 rfl (by kernel_rfl) rfl ?_;exact⟨by rw[hst3.out];rfl,below_setRow hM.2.2 (lL _) _⟩
end
section
open Go.Proofs.Tryz
open Go.ChangeShapes Go.WideShapes Go.ChangeAt Go.RowKit
theorem own:ownKnob lB.godebug=none:=by kernel_rfl
theorem laidOut:laidOutB lB=true:=by kernel_rfl
def tab3:List Int:=[128,191,160,191,128,159,144,191,128,143,0,0,0,0,0,0,0,0,0,0,0,0,0,0,0,0,0,0,0,0,0,0]
noncomputable def laidWorld(os:Os):World :=
 { World.holding lB os ⟨#[],#[],[]⟩ with heap:=(((((World.holding lB os ⟨#[],#[],[]⟩).heap).modify 3 fun
   | .cells _ t frozen=>.cells (tab3.map (Value.int .u8)).toArray t frozen
   | o=>o).modify 0 fun
   | .cells _ t frozen=>.cells (Oi.map W).toArray t frozen
   | o=>o).modify 2 fun
   | .cells _ t frozen=>.cells (Go.Pinned.utf8FirstZ.map fun (n:Nat)=>Value.int .u8 n).toArray t frozen
   | o=>o) }
theorem bool_res:lB.underlying 4=some .bool:=underlying4
theorem Ze9:lB.globalNamed "recension/digest.keys" = some 0:=by kernel_rfl
theorem Zp2:(lB.globals[0]?).map (·.type)=some 345:=by kernel_rfl
theorem Zp3:lB.cellsOf 345=64:=by kernel_rfl
theorem Zp4:lB.cellsOf 279=1:=by kernel_rfl
def Zea:List Int:=Oi.map wv
theorem repo_laid{W:World}(h:laidMetH lB Rows.repoNobodyRow.laid W):Y9 W:=by
 have ht:Lib.TabIs lB W "recension/digest.keys" .u32 Zea :=
  Lib.tabIs_of_head (rest:=_) Ze9 Zp2 underlying345 underlying279 Zp4 Zp3 (laidMet.tail h)
 intro i hi;have:=ht.cell Ze9 i (by show i<64;exact hi);rw[this];have hl:i<Oi.length:=hi;simp[Zea,hl]
end
end Go.Proofs.YtfdimggmljkkbaaGreatDoor
