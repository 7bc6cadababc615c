import Derived.Test.YtfdimggmljkkbaaGreatDoorP22
open Go renaming wpQuiet_nil → lC
open Go.Instr renaming build → l2
open Go.IntWalk renaming i64_in → lQ
open Go.Obj renaming cells → lM
open Go.Proofs.Tryz renaming prog → lH
open Go.RowKit.Below renaming refl → lZ
open Go.Value renaming slice → lE, ownBlock → lX
open Go.World renaming alloc → lL
open Iff renaming rfl → lU
open List renaming length_cons → lA, length_map → lB, getElem?_eq_some_iff → lG, getElem?_eq_getElem → lI, getElem?_append_left → lJ, getElem?_append_right → lK, append_assoc → lO, mem_cons_of_mem → lP, length_append → lR, map_append → lT, map_cons → lV, map_nil → lW, mem_cons → lY, drop_zero → l0, drop_of_length_le → l1, length_eq_zero_iff → l3, take_succ_eq_append_getElem → l4, take_append_drop → l5, drop_append_of_le_length → l6, cons_append → l8, length_take_of_le → l9, getElem?_map → nA, length_take → nB, getElem?_take → nC, getElem_of_mem → nD, getElem?_cons_zero → nF
open Nat renaming le_refl → lF, zero_add → lN, zero_mul → lS, le_trans → l7, sub_self → nE
open Option renaming mem_toList → lD
open Option.some renaming injEq → nG
namespace Go.Proofs.YtfdimggmljkkbaaGreatDoor
section
set_option maxRecDepth 100000
set_option maxHeartbeats 4000000
open Go.Lib renaming hid → iD
open Go.Proofs.Tryz
open Go.RowKit
noncomputable def kOf(T:FT)(ps:Nat->Nat)(v:Value):Nat:=Classical.epsilon fun k=>k<T.nodes.length/\v=ndP (ps k)
theorem Z3v{w:World}{base tb mb ab:Nat}{ps:Nat->Nat}{V:Nat->Bool->Value}{T:FT}(h:TreeM w base tb mb ab ps V T)(hT:FTok T){k:Nat}(hk:k<T.nodes.length):kOf T ps (ndP (ps k))=k:=by
 have h1:kOf T ps (ndP (ps k))<T.nodes.length/\ndP (ps k)=ndP (ps (kOf T ps (ndP (ps k)))):=Classical.epsilon_spec (p:=fun j=>j<T.nodes.length/\ndP (ps k)=ndP (ps j)) ⟨k,hk,rfl⟩;have h2:ps k=ps (kOf T ps (ndP (ps k))):=by
  have:=h1.2;unfold ndP at this
  injection this with this
  injection this with this
  injection this
 exact (h.inj hT hk h1.1 h2).symm
theorem Zc0{l:List FN}{f k:Nat}{nd:FN}(hk:l[k]?=some nd)(h:nd.left=[]):Ja l (f+1) k=k:=by
 rw[Ja,hk];dsimp only;rw[h]
theorem Zc1{l:List FN}{f k c:Nat}{r:List Nat}{nd:FN}(hk:l[k]?=some nd)(h:nd.left=c :: r):Ja l (f+1) k=Ja l f c:=by
 rw[Ja,hk];dsimp only;rw[h]
theorem Ou(r:PRef):∀ v ∈ Z1 r,v.oneCell'=true:=by
 intro v hv;simp[Z1] at hv;rcases hv with rfl | ⟨a,_,rfl⟩ | rfl <;> rfl
theorem Zlz(T:FT)(hTk:FTok T)(hnl:T.nodes.length<=400001)(base tb mb ab:Nat)(ps:Nat->Nat)(V:Nat->Bool->Value)(n:Nat)(hn:n<=(Y2 T).length)(w:World)(hT:TreeM w base tb mb ab ps V T) :
  Calls lH 218 #[.pointer (some ⟨tb,0,none⟩),.int .i64 n] w fun e w'=>e=.returned (.tuple #[Zl (Kn T n).1,.bool (Kn T n).2,.bool true])/\Below w.heap.size w w':=by
 have hseen:=Zlq hTk;have hll:(Y2 T).length<=400001:=by
  have h1:=Z1x hTk T.nodes.length 0;have h2:(Y2 T).length<=(Zr T.nodes T.nodes.length 0).length:=List.length_filter_le _ _;omega
 obtain⟨nz,hnz⟩:∃ nz:Int,nz=(n:Int):=⟨_,rfl⟩;rw[<-hnz];have g1:decide (nz<0)=false:=decide_eq_false (by omega);have g2:decide (T.seen<nz)=false:=decide_eq_false (by omega);replace hnz:=iD hnz;have hlist:=iD (fun W (hW:TreeM W base tb mb ab ps V T)=>Z6t T hTk base tb mb ab ps V W hW hnl);have hmade:=iD (fun W (hB:Blk W tb 245 (Jl (ps 0) mb ab T.seen))=>Z3s tb (ps 0) mb ab T.seen W hB);replace hT:=iD hT;replace hTk:=iD hTk;obtain⟨gp,hgp⟩:∃ gp,gp=Kn T n:=⟨_,rfl⟩;rw[<-hgp];replace hgp:=iD hgp;go_enter func218,ntmps218;go_wp2_with fail;generalize hW1:lL w (lM _ 158)=W1;have hb1:Below w.heap.size w W1:=by rw[<-hW1];exact bL
 have hB1:Blk W1 w.heap.size 158 (Z1 Z8):=by rw[<-hW1];exact Blk.new_at (cs:=Z1 Z8) rfl
 have hT1:=hT.out.calm hb1;have c0:W1.cell? ⟨tb,0,none⟩=some (.pointer (some ⟨ps 0,0,none⟩)):=hT1.tree.cell 0;have c3:W1.cell? ⟨tb,3,none⟩=some (.int .i64 T.seen):=hT1.tree.cell 3;have hm1:=iD (hmade.out W1 hT1.tree);replace hT1:=iD hT1;replace hb1:=iD hb1;replace hB1:=iD hB1;clear hW1 hmade hseen;refine hm1.out.mono ?_;rintro e W2 ⟨rfl,rfl⟩;obtain⟨nd0,hnd0,_⟩:=hTk.out.root;cases n with
 | zero =>
  obtain⟨ka,hka⟩:∃ ka,ka=0:=⟨_,rfl⟩;obtain⟨nd,hnd⟩:∃ nd,T.nodes[ka]?=some nd:=⟨nd0,by rw[hka];exact hnd0⟩;have hgapD:Kn T 0=match nd.right with | []=>(nd.name,false) | c :: _=>(Ya T (Ja T.nodes T.nodes.length c),true):=by
   unfold Kn Ya;rw[if_pos rfl];rw[hka] at hnd;dsimp only;rw[hnd];dsimp only;cases nd.right <;> rfl
  have hW2:=iD (lZ W2.heap.size W2);have k4:decide ((0:Int)<nz)=false:=decide_eq_false (by have:=hnz.out;omega);have c0k:W2.cell? ⟨tb,0,none⟩=some (.pointer (some ⟨ps ka,0,none⟩)):=by rw[hka];exact c0
  clear c0;replace hka:=iD hka;have hkl:ka<T.nodes.length:=(lG.1 hnd).1;have hTr:=hT1.out.calm hW2.out;have hcom:=(hTk.out.com hnd).1;have hRr:=hTr.row ka nd false hnd;rw[<-lB (f:=ps)] at hRr;obtain⟨RA,rc,hVr,hRc⟩:=Vi hRr;rw[lB] at hVr;have hnB:=hTr.node ka nd hnd;have c37:W2.cell? ⟨ps ka,37,none⟩=some (.slice RA nd.right.length rc):=by rw[hnB.cell,Qn hcom,hVr];rfl
  have hBr:=iD (hB1.out.below hW2.out hB1.out.lt);have hbr:=iD (hb1.out.trans (hW2.out.mono hb1.out.size));have hsr:=iD (Xe hcom);replace hnB:=iD hnB;have hrl:nd.right.length<T.nodes.length:=hTk.out.slen ka nd false hnd;cases hright:nd.right with
  | nil =>
   rw[hright] at hgapD c37;clear hRc hRr;go_wp2_with (first
    | (refine K3 rfl 158 (.tmp 45) rfl (ps ka) 0 rfl 235 (Zf nd.name nd.b nd.gone (V ka true) (V ka false)) (Z1 nd.name) [B nd.b,.bool nd.gone,V ka true,V ka false] hnB.out rfl _ underlying158 rfl hsr.out ?_)
    | (refine Zo rfl 158 (.tmp 4) (.tmp 46) rfl w.heap.size (Z1 nd.name) rfl rfl 158 (Z1 Z8) hBr.out (by simp[Z1,hcom,Z8,X2]) hsr.out (Ou _) ?_)
    | fail)
   exact Z17 rfl w.heap.size 158 (Z1 nd.name) _ rfl (hBr.out.setRow_same _) underlying158 rfl hsr.out rfl _ _ rfl rfl ⟨by rw[hgp.out,hgapD];rfl,below_setRow hbr.out (lF _) _⟩
  | cons c0' rr =>
   rw[hright] at hgapD c37;obtain⟨rg,hRA,_,hrc⟩:=hRc 0 (by simp[Zd,hright]);subst hRA;have hrc0:W2.cell? ⟨rg,0,none⟩=some (ndP (ps c0')):=by
    rw[hrc];simp[Zd,hright]
   have hkid:=hTk.out.kids ka nd false c0' hnd (by simp[Zd,hright]);have hrl2:(c0' :: rr).length<T.nodes.length:=by rw[<-hright];exact hrl
   have z1:decide (((c0' :: rr).length:Int)=0)=false:=decide_eq_false (by simp only[lA];omega);have z2:decide ((0:Int)<((c0' :: rr).length:Int))=true:=decide_eq_true (by simp only[lA];omega);have z3:(0:Int)<((c0' :: rr).length:Int):=by simp only[lA];omega
   have z4:(((c0' :: rr).length:Int) == 0)=false:=by rw[beq_eq_false_iff_ne];simp only[lA];omega
   obtain⟨rn,hrn⟩:∃ rn,rn=(c0' :: rr).length:=⟨_,rfl⟩;rw[<-hrn] at z1 z2 z3 z4 c37;replace hrn:=iD hrn;replace hgapD:=iD hgapD;have hTr':=iD hTr;clear hRc hRr hrc hTr;go_wp2_with fail;go_loopw [8] (fun nx wr=>∃ k f:Nat,nx=ndP (ps k)/\k<T.nodes.length/\T.nodes.length<=k+f/\Ja T.nodes f k=Ja T.nodes T.nodes.length c0'/\wr=W2) (fun nx _=>T.nodes.length - kOf T ps nx)
   case atStart=>exact⟨c0',T.nodes.length,rfl,hkid.2,by omega,rfl,rfl⟩
   case round =>
    obtain⟨k,f,rfl,hk,hf,hd,rfl⟩:=hrel;obtain⟨f,rfl⟩:∃ f',f=f'+1:=⟨f - 1,by omega⟩;have hkn:T.nodes[k]?=some T.nodes[k]:=lI hk;have hcomk:=(hTk.out.com hkn).1;have hLr:=hTr'.out.row k _ true hkn;rw[<-lB (f:=ps)] at hLr;obtain⟨LB,lb',hVl,hLcc⟩:=Vi hLr;rw[lB] at hVl;have hkB:=hTr'.out.node k _ hkn;obtain⟨x,hx⟩:∃ x,x=T.nodes[k]:=⟨_,rfl⟩;rw[<-hx] at hkn hcomk hVl hkB hLcc;have c36:wr.cell? ⟨ps k,36,none⟩=some (.slice LB x.left.length lb'):=by rw[hkB.cell,Qm hcomk,hVl];rfl
    have hsk:=iD (Xe hcomk);replace hkB:=iD hkB;have hll2:x.left.length<T.nodes.length:=hTk.out.slen k x true hkn;cases hleft:x.left with
    | nil =>
     rw[hleft] at c36;rw[Zc0 hkn hleft] at hd;have hnm:Ya T (Ja T.nodes T.nodes.length c0')=x.name:=by rw[<-hd];unfold Ya;rw[hkn];rfl
     replace hgapD:=hgapD.out;rw[hnm] at hgapD;replace hgapD:=iD hgapD;replace hd:=iD hd;replace hx:=iD hx;clear hLr hLcc;go_wp2_with (first
      | (refine K3 rfl 158 (.tmp 67) rfl (ps k) 0 rfl 235 (Zf x.name x.b x.gone (V k true) (V k false)) (Z1 x.name) [B x.b,.bool x.gone,V k true,V k false] hkB.out rfl _ underlying158 rfl hsk.out ?_)
      | (refine Zo rfl 158 (.tmp 4) (.tmp 68) rfl w.heap.size (Z1 x.name) rfl rfl 158 (Z1 Z8) hBr.out (by simp[Z1,hcomk,Z8,X2]) hsk.out (Ou _) ?_)
      | fail)
     exact Z17 rfl w.heap.size 158 (Z1 x.name) _ rfl (hBr.out.setRow_same _) underlying158 rfl hsk.out rfl _ _ rfl rfl ⟨by rw[hgp.out,hgapD.out];rfl,below_setRow hbr.out (lF _) _⟩
    | cons c1 r1 =>
     rw[hleft] at c36;rw[Zc1 hkn hleft] at hd;obtain⟨lg2,hLA,_,hlc⟩:=hLcc 0 (by simp[Zd,hleft]);subst hLA;have hlc0:wr.cell? ⟨lg2,0,none⟩=some (ndP (ps c1)):=by
      rw[hlc];simp[Zd,hleft]
     have hkid1:=hTk.out.kids k x true c1 hkn (by simp[Zd,hleft]);have y2:decide ((0:Int)<((c1 :: r1).length:Int))=true:=decide_eq_true (by simp only[lA];omega);have y3:(0:Int)<((c1 :: r1).length:Int):=by simp only[lA];omega
     have m1:=Z3v hTr'.out hTk.out hk;have m2:=Z3v hTr'.out hTk.out hkid1.2;obtain⟨ln,hln⟩:∃ ln,ln=(c1 :: r1).length:=⟨_,rfl⟩;rw[<-hln] at y2 y3 c36;replace hln:=iD hln;replace hd:=iD hd;clear hLr hLcc hlc;go_wp2_with fail;refine⟨⟨c1,f,rfl,hkid1.2,by omega,hd.out,by simp⟩,?_⟩;rw[m1,m2];omega
 | succ n =>
  have hnl':n<(Y2 T).length:=by omega
  obtain⟨ka,hka⟩:∃ ka,ka=(Y2 T)[n]:=⟨_,rfl⟩;obtain⟨nd,hnd,_⟩:=Z6u hTk.out hnl';rw[<-hka] at hnd;have hgapD:Kn T (n+1)=match nd.right with | []=>(nd.name,false) | c :: _=>(Ya T (Ja T.nodes T.nodes.length c),true):=by
   unfold Kn Ya;rw[if_neg (by omega),Nat.add_sub_cancel,show (Y2 T).getD n 0=ka by rw[hka];simp[List.getD,hnl']];dsimp only;rw[hnd];dsimp only;cases nd.right <;> rfl
  have k1:(0:Int)<=(n:Int):=by omega
  have k2:(n:Int)<((Y2 T).length:Int):=by omega
  have k4:decide ((0:Int)<nz)=true:=decide_eq_true (by have:=hnz.out;omega);have k5:IntKind.i64.wrap (nz - 1)=(n:Int):=by rw[show nz - 1=(n:Int) by have:=hnz.out;omega];exact lQ _ (by omega)
  have hc:=iD (hlist.out _ hT1.out);clear hlist;go_wp2_with fail;refine hc.out.mono ?_;rintro e W3 ⟨LV,rfl,hLo,hb3⟩;rw[<-lB (f:=ps)] at hLo;obtain⟨LA,lc,rfl,hLc⟩:=Vi hLo;obtain⟨lg,rfl,_,hcel⟩:=hLc n (by simpa using hnl');rw[lB];have cL:W3.cell? ⟨lg,n,none⟩=some (ndP (ps ka)):=by rw[hcel,List.getElem_map,<-hka]
  have hW2:=iD hb3;replace hka:=iD hka;clear hLo hLc hcel hc c0 c3;have hkl:ka<T.nodes.length:=(lG.1 hnd).1;have hTr:=hT1.out.calm hW2.out;have hcom:=(hTk.out.com hnd).1;have hRr:=hTr.row ka nd false hnd;rw[<-lB (f:=ps)] at hRr;obtain⟨RA,rc,hVr,hRc⟩:=Vi hRr;rw[lB] at hVr;have hnB:=hTr.node ka nd hnd;have c37:W3.cell? ⟨ps ka,37,none⟩=some (.slice RA nd.right.length rc):=by rw[hnB.cell,Qn hcom,hVr];rfl
  have hBr:=iD (hB1.out.below hW2.out hB1.out.lt);have hbr:=iD (hb1.out.trans (hW2.out.mono hb1.out.size));have hsr:=iD (Xe hcom);replace hnB:=iD hnB;have hrl:nd.right.length<T.nodes.length:=hTk.out.slen ka nd false hnd;cases hright:nd.right with
  | nil =>
   rw[hright] at hgapD c37;clear hRc hRr;go_wp2_with (first
    | (refine K3 rfl 158 (.tmp 45) rfl (ps ka) 0 rfl 235 (Zf nd.name nd.b nd.gone (V ka true) (V ka false)) (Z1 nd.name) [B nd.b,.bool nd.gone,V ka true,V ka false] hnB.out rfl _ underlying158 rfl hsr.out ?_)
    | (refine Zo rfl 158 (.tmp 4) (.tmp 46) rfl w.heap.size (Z1 nd.name) rfl rfl 158 (Z1 Z8) hBr.out (by simp[Z1,hcom,Z8,X2]) hsr.out (Ou _) ?_)
    | fail)
   exact Z17 rfl w.heap.size 158 (Z1 nd.name) _ rfl (hBr.out.setRow_same _) underlying158 rfl hsr.out rfl _ _ rfl rfl ⟨by rw[hgp.out,hgapD];rfl,below_setRow hbr.out (lF _) _⟩
  | cons c0' rr =>
   rw[hright] at hgapD c37;obtain⟨rg,hRA,_,hrc⟩:=hRc 0 (by simp[Zd,hright]);subst hRA;have hrc0:W3.cell? ⟨rg,0,none⟩=some (ndP (ps c0')):=by
    rw[hrc];simp[Zd,hright]
   have hkid:=hTk.out.kids ka nd false c0' hnd (by simp[Zd,hright]);have hrl2:(c0' :: rr).length<T.nodes.length:=by rw[<-hright];exact hrl
   have z1:decide (((c0' :: rr).length:Int)=0)=false:=decide_eq_false (by simp only[lA];omega);have z2:decide ((0:Int)<((c0' :: rr).length:Int))=true:=decide_eq_true (by simp only[lA];omega);have z3:(0:Int)<((c0' :: rr).length:Int):=by simp only[lA];omega
   have z4:(((c0' :: rr).length:Int) == 0)=false:=by rw[beq_eq_false_iff_ne];simp only[lA];omega
   obtain⟨rn,hrn⟩:∃ rn,rn=(c0' :: rr).length:=⟨_,rfl⟩;rw[<-hrn] at z1 z2 z3 z4 c37;replace hrn:=iD hrn;replace hgapD:=iD hgapD;have hTr':=iD hTr;clear hRc hRr hrc hTr;go_wp2_with fail;go_loopw [8] (fun nx wr=>∃ k f:Nat,nx=ndP (ps k)/\k<T.nodes.length/\T.nodes.length<=k+f/\Ja T.nodes f k=Ja T.nodes T.nodes.length c0'/\wr=W3) (fun nx _=>T.nodes.length - kOf T ps nx)
   case atStart=>exact⟨c0',T.nodes.length,rfl,hkid.2,by omega,rfl,rfl⟩
   case round =>
    obtain⟨k,f,rfl,hk,hf,hd,rfl⟩:=hrel;obtain⟨f,rfl⟩:∃ f',f=f'+1:=⟨f - 1,by omega⟩;have hkn:T.nodes[k]?=some T.nodes[k]:=lI hk;have hcomk:=(hTk.out.com hkn).1;have hLr:=hTr'.out.row k _ true hkn;rw[<-lB (f:=ps)] at hLr;obtain⟨LB,lb',hVl,hLcc⟩:=Vi hLr;rw[lB] at hVl;have hkB:=hTr'.out.node k _ hkn;obtain⟨x,hx⟩:∃ x,x=T.nodes[k]:=⟨_,rfl⟩;rw[<-hx] at hkn hcomk hVl hkB hLcc;have c36:wr.cell? ⟨ps k,36,none⟩=some (.slice LB x.left.length lb'):=by rw[hkB.cell,Qm hcomk,hVl];rfl
    have hsk:=iD (Xe hcomk);replace hkB:=iD hkB;have hll2:x.left.length<T.nodes.length:=hTk.out.slen k x true hkn;cases hleft:x.left with
    | nil =>
     rw[hleft] at c36;rw[Zc0 hkn hleft] at hd;have hnm:Ya T (Ja T.nodes T.nodes.length c0')=x.name:=by rw[<-hd];unfold Ya;rw[hkn];rfl
     replace hgapD:=hgapD.out;rw[hnm] at hgapD;replace hgapD:=iD hgapD;replace hd:=iD hd;replace hx:=iD hx;clear hLr hLcc;go_wp2_with (first
      | (refine K3 rfl 158 (.tmp 67) rfl (ps k) 0 rfl 235 (Zf x.name x.b x.gone (V k true) (V k false)) (Z1 x.name) [B x.b,.bool x.gone,V k true,V k false] hkB.out rfl _ underlying158 rfl hsk.out ?_)
      | (refine Zo rfl 158 (.tmp 4) (.tmp 68) rfl w.heap.size (Z1 x.name) rfl rfl 158 (Z1 Z8) hBr.out (by simp[Z1,hcomk,Z8,X2]) hsk.out (Ou _) ?_)
      | fail)
     exact Z17 rfl w.heap.size 158 (Z1 x.name) _ rfl (hBr.out.setRow_same _) underlying158 rfl hsk.out rfl _ _ rfl rfl ⟨by rw[hgp.out,hgapD.out];rfl,below_setRow hbr.out (lF _) _⟩
    | cons c1 r1 =>
     rw[hleft] at c36;rw[Zc1 hkn hleft] at hd;obtain⟨lg2,hLA,_,hlc⟩:=hLcc 0 (by simp[Zd,hleft]);subst hLA;have hlc0:wr.cell? ⟨lg2,0,none⟩=some (ndP (ps c1)):=by
      rw[hlc];simp[Zd,hleft]
     have hkid1:=hTk.out.kids k x true c1 hkn (by simp[Zd,hleft]);have y2:decide ((0:Int)<((c1 :: r1).length:Int))=true:=decide_eq_true (by simp only[lA];omega);have y3:(0:Int)<((c1 :: r1).length:Int):=by simp only[lA];omega
     have m1:=Z3v hTr'.out hTk.out hk;have m2:=Z3v hTr'.out hTk.out hkid1.2;obtain⟨ln,hln⟩:∃ ln,ln=(c1 :: r1).length:=⟨_,rfl⟩;rw[<-hln] at y2 y3 c36;replace hln:=iD hln;replace hd:=iD hd;clear hLr hLcc hlc;go_wp2_with fail;refine⟨⟨c1,f,rfl,hkid1.2,by omega,hd.out,by simp⟩,?_⟩;rw[m1,m2];omega
end
section
set_option maxRecDepth 100000
set_option maxHeartbeats 2000000
open Go.Lib renaming hid → iD
open Go.Proofs.Tryz
open Go.RowKit
structure Mk where
 refs:List PRef
 at_:Nat
 kept:Nat
 ops:List POp
def mk5(tb:Nat)(R:Value)(a k:Nat)(V:Value):List Value:=[.pointer (some ⟨tb,0,none⟩),R,.int .i64 (a:Int),.int .i64 (k:Int),V]
def Jp(l:List PRef):List Value:=l.flatMap Z1
structure MkAt (base:Nat) (w:World) (tb gb:Nat) (R V:Value) (s:Mk):Prop where
 lo:base<=gb
 box:Blk w gb 259 (mk5 tb R s.at_ s.kept V)
 refs:w.ownsRow base 158 34 R s.refs.length (Jp s.refs)
 ops:w.ownsRow base 178 37 V s.ops.length (X5 s.ops)
 com:∀ r ∈ s.refs,r.com.length=32
def Ov(w:World)(V V':Value):Prop:=V'.ownBlock=V.ownBlock ∨ ∀ g,V'.ownBlock=some g->w.heap.size<=g
theorem Ov.refl(w:World)(V:Value):Ov w V V:=.inl rfl
theorem MkAt.calm{base:Nat}{w w':World}{tb gb:Nat}{R V:Value}{s:Mk}(h:MkAt base w tb gb R V s)(hb:Below w.heap.size w w'):MkAt base w' tb gb R V s :=
 ⟨h.lo,h.box.below hb h.box.lt,Zk h.refs (Touch.ofBelow (L:=[]) hb) (fun _ _ hm=>by cases hm),Zk h.ops (Touch.ofBelow (L:=[]) hb) (fun _ _ hm=>by cases hm),h.com⟩
theorem Zm0{l:List PRef}(h:∀ r ∈ l,r.com.length=32):(Jp l).length=l.length*34:=by
 induction l with
 | nil=>rfl
 | cons r l ih =>
  have h1:=ih (fun x hx=>h x (by simp[hx]));have h2:=h r (by simp);unfold Jp at h1 ⊢;rw[List.flatMap_cons,lR,h1,lA];simp[Z1,h2];omega
theorem Zm1{l:List PRef}(h:∀ r ∈ l,r.com.length=32){k:Nat}(hk:k<l.length):(Jp l).drop (k*34)=Z1 l[k]++(Jp l).drop ((k+1)*34):=by
 induction l generalizing k with
 | nil=>simp at hk
 | cons r l ih =>
  have h2:(Z1 r).length=34:=by simp[Z1,h r (by simp)]
  have e:Jp (r :: l)=Z1 r++Jp l:=by simp[Jp]
  rw[e];cases k with
  | zero =>
   simp only[lS,l0,lN,Nat.one_mul,List.getElem_cons_zero];rw[List.drop_append,l1 (by omega),h2];simp
  | succ k =>
   have h3:=ih (fun x hx=>h x (by simp[hx])) (k:=k) (by simpa using hk);have h4:∀ q,34<=q->(Z1 r++Jp l).drop q=(Jp l).drop (q - 34):=fun q hq=>by
    rw[List.drop_append,l1 (by rw[h2];exact hq),h2,List.nil_append]
   rw[h4 _ (by omega),h4 _ (by omega),show (k+1)*34 - 34=k*34 by omega,show (k+1+1)*34 - 34=(k+1)*34 by omega];exact h3
theorem Zm2(base tb gb:Nat)(R V:Value)(s:Mk)(n:Nat)(t:Str)(k:Int)(hn:s.at_+n<=1000000)(w:World)(h:MkAt base w tb gb R V s) :
  Calls lH 166 #[.pointer (some ⟨gb,0,none⟩),.agg #[.int .i64 k,.int .i64 (n:Int),Z0 t]] w fun e w'=>e=.returned (.tuple #[])/\MkAt base w' tb gb R V { s with at_:=s.at_+n,kept:=s.at_+n }/\Touch [gb] w w':=by
 obtain⟨a,ha⟩:∃ a,a=s.at_:=⟨_,rfl⟩;have hse:IntKind.i64.wrap ((a:Int)+(n:Int))=(a:Int)+(n:Int):=lQ _ (by omega);unfold Z0;go_enter func166,ntmps166;go_wp2_with fail;generalize hW1:lL w (lM _ 144)=W1;have hb1:Below w.heap.size w W1:=by rw[<-hW1];exact bL
 have hE1:Blk W1 w.heap.size 144 [.int .i64 k,.int .i64 (n:Int),.string ⟨t.toArray⟩]:=by rw[<-hW1];exact Blk.new_at (cs:=[.int .i64 k,.int .i64 (n:Int),.string ⟨t.toArray⟩]) rfl
 have hm1:=h.calm hb1;have hbx:=hm1.box;rw[<-ha] at hbx;have c2:W1.cell? ⟨gb,2,none⟩=some (.int .i64 (a:Int)):=hbx.cell 2;have e1:W1.cell? ⟨w.heap.size,1,none⟩=some (.int .i64 (n:Int)):=hE1.cell 1;clear hW1;replace hbx:=iD hbx;replace hm1:=iD hm1;replace hb1:=iD hb1;replace ha:=iD ha;clear hE1 h;refine Ye 9 (by kernel_rfl) (by kernel_rfl) ?_;simp only[List.take_succ_cons,List.take_zero,List.drop_succ_cons,l0];repeat (first | go_big_quiet_step (fail))
 refine lC ?_;rintro _ ⟨nq,rfl⟩;have hbq:=hbx.out.drewN nq;have hmq:=hm1.out.calm ((Touch.drewN (w:=W1) (L:=[]) nq).below (lF _) (fun _ hi=>by cases hi));have htq:=(Touch.ofBelow (L:=[gb]) hb1.out).trans (Touch.drewN (L:=[gb]) nq) (fun i hi=>.inl hi);generalize W1.drewN nq=w2 at hbq hmq htq ⊢;have f2:=hbq.frozen 2;have g2:∀ u,(w2.setCell ⟨gb,2,none⟩ u).cell? ⟨gb,2,none⟩=some u:=fun u=>(hbq.set_ 2 u).cell 2;have f3:∀ u,(w2.setCell ⟨gb,2,none⟩ u).frozen? ⟨gb,3,none⟩=false:=fun u=>(hbq.set_ 2 u).frozen 3;have f0:w2.cell? ⟨gb,2,none⟩=some (.int .i64 (a:Int)):=hbq.cell 2;have f5:∀ u,(w2.setCell ⟨gb,2,none⟩ u).cell? ⟨gb,3,none⟩=some (.int .i64 (s.kept:Int)):=fun u=>(hbq.set_ 2 u).cell 3;replace hbq:=iD hbq;replace hmq:=iD hmq;replace htq:=iD htq;clear c2 e1 hbx hm1 hb1;go_wp2_with fail;go_returns;have hT:Touch [gb] w2 ((w2.setCell ⟨gb,2,none⟩ (.int .i64 ((a:Int)+(n:Int)))).setCell ⟨gb,3,none⟩ (.int .i64 ((a:Int)+(n:Int)))):=(Touch.setCell (L:=[gb]) _ (by simp)).trans (Touch.setCell (L:=[gb]) _ (by simp)) (fun i hi=>.inl hi);refine⟨rfl,⟨hmq.out.lo,?_,Zk hmq.out.refs hT (fun b hb hm=>?_),Zk hmq.out.ops hT (fun b hb hm=>?_),hmq.out.com⟩,htq.out.trans hT (fun i hi=>.inl hi)⟩
 ·have h1:=(hbq.out.set_ 2 (.int .i64 ((a:Int)+(n:Int)))).set_ 3 (.int .i64 ((a:Int)+(n:Int)));have e:((s.at_+n:Nat):Int)=(a:Int)+(n:Int):=by rw[ha.out];omega
  show Blk _ gb _ (mk5 tb R (s.at_+n) (s.at_+n) V);unfold mk5;rw[e];exact h1
 ·have:=J7 hmq.out.refs hbq.out (by decide);obtain rfl:b=gb:=by simpa using hm
  exact this hb.symm
 ·have:=J7 hmq.out.ops hbq.out (by decide);obtain rfl:b=gb:=by simpa using hm
  exact this hb.symm
def Qq(r:PRef):POp:=⟨2,false,r,0⟩
theorem Zm3(r:PRef)(hr:r.com.length=32)(w:World):(l2 178 #[(0,.int .i64 2),(2,.agg (Z1 r).toArray)]).run lH w=.ok (.agg (Z9 (Qq r)).toArray) w:=by
 obtain⟨o,d,n⟩:=r;dsimp only at hr
 iterate 32 (rcases d with _ | ⟨_,d⟩;· (exfalso;simp at hr;done))
 obtain rfl:d=[]:=by
  simp only[lA] at hr;exact l3.1 (by omega)
 kernel_rfl
def Yo(s:Mk)(m:Nat):Mk:={ s with at_:=s.at_+m,ops:=s.ops++((s.refs.drop s.at_).take m).map Qq }
theorem Zm4{s:Mk}{m:Nat}(h:s.at_+m<s.refs.length):X5 (Yo s (m+1)).ops=X5 (Yo s m).ops++Z9 (Qq s.refs[s.at_+m]):=by
 have h1:m<(s.refs.drop s.at_).length:=by simp;omega
 unfold Yo;dsimp only;rw[l4 h1,lT,<-lO,Z9w];simp[X5]
theorem Zc2{s:Mk}{m:Nat}(h:s.at_+m<=s.refs.length):(Yo s m).ops.length=s.ops.length+m:=by
 unfold Yo;simp;omega
theorem Zm5(base tb gb:Nat)(R V:Value)(s:Mk)(n:Nat)(t:Str)(k:Int)(hn:s.at_+n<=s.refs.length)(hl:s.refs.length<=400001)(ho:s.ops.length+n<=2000)(w:World)(h:MkAt base w tb gb R V s)(hbase:base<=w.heap.size) :
  Calls lH 167 #[.pointer (some ⟨gb,0,none⟩),.agg #[.int .i64 k,.int .i64 (n:Int),Z0 t]] w fun e w'=>e=.returned (.tuple #[])/\∃ V',MkAt base w' tb gb R V' (Yo s n)/\Touch (gb :: V.ownBlock.toList) w w'/\Ov w V V':=by
 unfold Z0;go_enter func167,ntmps167;go_wp2_with fail;generalize hW1:lL w (lM _ 144)=W1;have hb1:Below w.heap.size w W1:=by rw[<-hW1];exact bL
 have hE1:Blk W1 w.heap.size 144 [.int .i64 k,.int .i64 (n:Int),.string ⟨t.toArray⟩]:=by rw[<-hW1];exact Blk.new_at (cs:=[.int .i64 k,.int .i64 (n:Int),.string ⟨t.toArray⟩]) rfl
 have hm1:=h.calm hb1;have e1:W1.cell? ⟨w.heap.size,1,none⟩=some (.int .i64 (n:Int)):=hE1.cell 1;clear hW1 hE1 h;replace hm1:=iD hm1;replace hb1:=iD hb1;go_wp2_with fail;go_loopw [6] (fun i wr=>∃ (m:Nat) (V':Value),m<=n/\i=.int .i64 m/\MkAt base wr tb gb R V' (Yo s m)/\Touch (gb :: V.ownBlock.toList) W1 wr/\Ov W1 V V') (fun i _=>n - (intOf i).toNat)
 case atStart=>exact⟨0,V,Nat.zero_le _,rfl,by simpa[Yo] using hm1.out,Touch.refl _ _,Ov.refl _ _⟩
 case round =>
  obtain⟨m,V',hm,rfl,hst,htr,hnb⟩:=hrel;obtain⟨FA,fc,rfl,_,_⟩:=Z6 hst.ops;by_cases hlt:m<n
  ·have i1:(0:Int)<=(m:Int):=by omega
   have i2:(m:Int)<(n:Int):=by omega
   have hln:=Zc2 (s:=s) (m:=m) (by omega);obtain⟨a,ha⟩:∃ a,a=s.at_+m:=⟨_,rfl⟩;have hal:a<s.refs.length:=by omega
   obtain⟨r,hr⟩:∃ r,r=s.refs[a]:=⟨_,rfl⟩;have hrc:r.com.length=32:=hst.com r (by rw[hr];exact List.getElem_mem hal);have hbx:Blk wr gb 259 (mk5 tb R a s.kept (.slice FA (Yo s m).ops.length fc)):=by rw[ha];exact hst.box
   have hrefs:wr.ownsRow base 158 34 R s.refs.length (Jp s.refs):=hst.refs;obtain⟨rg,rcap,cur,hR,hrb,hRB,_,_,_,hcur⟩:∃ rg rcap cur,R=.slice (some ⟨rg,0,none⟩) s.refs.length rcap/\base<=rg/\Blk wr rg 158 cur/\s.refs.length<=rcap/\rcap<=maxLen/\cur.length=rcap*34/\cur.take (s.refs.length*34)=Jp s.refs:=by
    rcases hrefs.2 with ⟨_,h0⟩ | ⟨g,cap,cur,h2,h3,h4,h5,h6,h7,h8⟩
    ·omega
    ·exact⟨g,cap,cur.toList,h2,h3,by unfold Blk;simpa using h4,h5,h6,by simpa using h7,h8⟩
   have hdrop:cur.drop (a*34)=Z1 r++cur.drop ((a+1)*34):=by
    have h1:cur=Jp s.refs++cur.drop (s.refs.length*34):=by rw[<-hcur,l5]
    have h2:=Zm0 hst.com;have h2':(Jp s.refs).length=s.refs.length*34:=h2;rw[h1,l6 (by omega),l6 (by omega),Zm1 (l:=s.refs) hst.com (k:=a) hal,<-hr,lO]
   subst hR;have cV:wr.cell? ⟨gb,4,none⟩=some (.slice FA (Yo s m).ops.length fc):=hbx.cell 4;have a1:(0:Int)<=(a:Int):=by omega
   have a2:(a:Int)<(s.refs.length:Int):=by omega
   have hse:IntKind.i64.wrap ((a:Int)+1)=(a:Int)+1:=lQ _ (by omega);replace ha:=iD ha;replace hr:=iD hr;replace hln:=iD hln;go_upto_region 3 with fail;obtain⟨PS,hPS⟩:∃ PS:World->Prop,∀ x,PS x ↔ Blk x gb 259 (mk5 tb (.slice (some ⟨rg,0,none⟩) s.refs.length rcap) a s.kept (.slice FA (Yo s m).ops.length fc))/\Blk x rg 158 cur:=⟨_,fun _=>lU⟩;have s1:∀ z:Cls PS,z.1.cell? ⟨gb,4,none⟩=some (.slice FA (Yo s m).ops.length fc):=fun z=>((hPS _).1 z.2).1.cell 4;have s2:∀ z:Cls PS,z.1.cell? ⟨gb,1,none⟩=some (.slice (some ⟨rg,0,none⟩) s.refs.length rcap):=fun z=>((hPS _).1 z.2).1.cell 1;have s3:∀ z:Cls PS,z.1.cell? ⟨gb,2,none⟩=some (.int .i64 (a:Int)):=fun z=>((hPS _).1 z.2).1.cell 2;have s5:Hid (∀ w',(∃ z:Cls PS,w'=z.1)->Blk w' rg 158 cur):=iD (by rintro _ ⟨z,rfl⟩;exact ((hPS _).1 z.2).2);have s4:PS wr.drew:=(hPS _).2 ⟨hbx.drew,hRB.drew⟩;haveI : Nonempty (Cls PS):=⟨⟨_,s4⟩⟩;replace hPS:=iD hPS;have hdr:=iD hdrop;clear hdrop hcur;refine Z14 (fun w'=>∃ z:Cls PS,w'=z.1) [0,1,2,3,4,5,6,7,8,9,10,11,12,13,14,15] [16,17] 18 [19,20] (by kernel_rfl) (by kernel_rfl) (fun _ d _ _ _ h=>by cases d <;> exact h) ⟨⟨_,s4⟩,rfl⟩ ?_;simp only[Zj,lV,lW,Yw,Ys];repeat (first | go_big_quiet_step (fail) | (refine Yf 158 (.tmp 21) rfl rfl rg (a*34) rfl 158 cur (Z1 r) (cur.drop ((a+1)*34)) s5.out hdr.out _ underlying158 rfl (Xe hrc) ?_;go_frame))
   refine Yp (.build 178 #[(0,.const (.int .i64 2)),(2,.tmp 22)]) rfl rfl (.agg (Z9 (Qq r)).toArray) (fun w' _=>exec_build2 178 0 2 (.const (.int .i64 2)) (.tmp 22) rfl (.int .i64 2) (.agg (Z1 r).toArray) (.agg (Z9 (Qq r)).toArray) rfl rfl (Zm3 r hrc w')) ?_;go_frame;repeat (first | go_big_quiet_step (fail))
   refine lC ?_;intro K hK;refine Z07 _ _ rfl _ (Uk 80 (.tmp 23) rfl _ _ rfl (Z9v (Qq r) hrc _)) ?_;have hB1:Below wr.heap.size wr (wr.drew.alloc (.cells (Z9 (Qq r)).toArray 178)):=by go_grown
   refine hK _ _ ⟨⟨_,(hPS.out _).2 ⟨hbx.below hB1 hbx.lt,hRB.below hB1 hRB.lt⟩⟩,rfl⟩ ?_;intro K' hK';have hsz:=htr.size;have hsz1:=hb1.out.size;refine V5 _ rfl (.tmp 12) (.tmp 24) 80 rfl base 178 _ 37 72 underlying80 Z5j (.slice FA (Yo s m).ops.length fc) (Yo s m).ops.length (X5 (Yo s m).ops) rfl (hst.ops.drew.alloc _) (fun _=>True) (some ⟨wr.heap.size,0,none⟩) 1 1 (Z9 (Qq r)) rfl (by simp[Z9,Z1,Qq,hrc]) (Rd.of_blk (cs:=Z9 (Qq r)) (r:=[]) (Blk.new_at rfl) (by simp) trivial) (Uj _) (by have:=hln.out;unfold maxLen;omega) (by have:=hln.out;omega) (by simp;omega) ?_;intro v4 W4 hrow4 hg4 hv4;obtain⟨GA,gc,rfl,_,_⟩:=Z6 hrow4;have nrow:∀ g t' cs,Blk wr g t' cs->t' ≠ 178->some g ≠ (lE FA (Yo s m).ops.length fc).ownBlock:=fun g t' cs hB hn e=>J7 hst.ops hB hn e;have hg3:Blk W4 gb 259 (mk5 tb (.slice (some ⟨rg,0,none⟩) s.refs.length rcap) a s.kept (.slice FA (Yo s m).ops.length fc)):=(hbx.below hB1 hbx.lt).grown hg4 (nrow _ _ _ hbx (by decide));have hR4:Blk W4 rg 158 cur:=(hRB.below hB1 hRB.lt).grown hg4 (nrow _ _ _ hRB (by decide));refine hK' _ _ ⟨⟨_,(hPS.out _).2 ⟨hg3,hR4⟩⟩,rfl⟩ ?_;have f4:=hg3.frozen 4;have g4:W4.cell? ⟨gb,4,none⟩=some (.slice FA (Yo s m).ops.length fc):=hg3.cell 4;have g2:∀ u,(W4.setCell ⟨gb,4,none⟩ u).cell? ⟨gb,2,none⟩=some (.int .i64 (a:Int)):=fun u=>(hg3.set_ 4 u).cell 2;have f2:∀ u,(W4.setCell ⟨gb,4,none⟩ u).frozen? ⟨gb,2,none⟩=false:=fun u=>(hg3.set_ 4 u).frozen 2
   change wpList _ _ _ _ _ _
   go_frame;go_wp2_with fail;have hW4:Touch (lE FA (Yo s m).ops.length fc).ownBlock.toList wr W4:=(Touch.ofBelow (L:=(lE FA (Yo s m).ops.length fc).ownBlock.toList) hB1).trans (Touch.grown (L:=(lE FA (Yo s m).ops.length fc).ownBlock.toList) hg4 (fun b hb=>lD.2 hb)) (fun i hi=>.inl hi);have t6:Touch [gb] W4 ((W4.setCell ⟨gb,4,none⟩ (.slice GA ((Yo s m).ops.length+1) gc)).setCell ⟨gb,2,none⟩ (.int .i64 ((a:Int)+1))):=(Touch.setCell (L:=[gb]) _ (by simp)).trans (Touch.setCell (L:=[gb]) _ (by simp)) (fun i hi=>.inl hi);have hcl:=Zc2 (s:=s) (m:=m+1) (by omega);refine⟨⟨m+1,.slice GA ((Yo s m).ops.length+1) gc,by omega,by go_num,⟨hst.lo,?_,?_,?_,hst.com⟩,?_,?_⟩,by simp[intOf];omega⟩
   ·have h1:=(hg3.set_ 4 (.slice GA ((Yo s m).ops.length+1) gc)).set_ 2 (.int .i64 ((a:Int)+1));have e:(((Yo s (m+1)).at_:Nat):Int)=(a:Int)+1:=by
     unfold Yo;dsimp only;rw[ha.out];omega
    show Blk _ gb _ (mk5 tb _ (Yo s (m+1)).at_ _ _);unfold mk5 at h1 ⊢;rw[e];exact h1
   ·have h1:=Zk (Zk hst.refs hW4 (fun b hb hm=>by
     have h1:=J7 hst.ops hRB (by decide);have e:rg=b:=by simpa[lX] using hb
     rw[e] at h1;exact h1 (lD.1 hm).symm)) t6 (fun b hb hm=>by
     have h1:=hR4.ne_ hg3 (by decide);have e:rg=b:=by simpa[lX] using hb
     obtain rfl:b=gb:=by simpa using hm
     exact h1 e)
    exact h1
   ·have h1:=Zk hrow4 t6 (fun b hb hm=>by
     obtain rfl:b=gb:=by simpa using hm
     exact J7 hrow4 hg3 (by decide) hb.symm)
    rw[show (Yo s (m+1)).ops.length=(Yo s m).ops.length+1 by rw[hcl,hln.out];omega,Zm4 (by omega)];have e:s.refs[s.at_+m]'(by omega)=r:=by rw[hr.out];congr 1;exact ha.out.symm
    rw[e];exact h1
   ·refine (htr.trans hW4 (fun i hi=>?_)).trans t6 (fun i hi=>.inl (by simp at hi;simp[hi]));have hi:=lD.1 hi;rcases hnb with e | e
    ·exact .inl (lP _ (lD.2 (by rw[<-e];exact hi)))
    ·exact .inr (e i hi)
   ·rcases hv4 with e | e
    ·rcases hnb with e' | e'
     ·exact .inl (e.trans e')
     ·exact .inr (fun g hg=>e' g (by rw[<-e];exact hg))
    ·refine .inr (fun g hg=>?_);rw[e] at hg
     injection hg with hg
     simp at hg;omega
  ·have hmt:m=n:=by omega
   subst hmt;go_wp2_with fail;go_returns;refine⟨rfl,_,hst,(Touch.ofBelow (L:=gb :: V.ownBlock.toList) hb1.out).trans htr (fun i hi=>.inl hi),?_⟩;rcases hnb with e | e
   ·exact .inl e
   ·exact .inr (fun g hg=>l7 hb1.out.size (e g hg))
end
section
set_option maxRecDepth 100000
set_option maxHeartbeats 4000000
open Go.Lib renaming hid → iD
open Go.Proofs.Tryz
open Go.RowKit
def Qr(k:Nat)(g:PRef × Bool)(m:Nat)(c:UInt8):POp:=⟨1,if m=0 then g.2 else false,if m=0 then g.1 else Js (k+m),c⟩
def Vk(k:Nat)(g:PRef × Bool):Nat->Str->List POp
 | _,[]=>[]
 | m,c :: t=>Qr k g m c :: Vk k g (m+1) t
theorem Zc3(k:Nat)(g:PRef × Bool):∀ (t:Str) (m:Nat) (c:UInt8),Vk k g m (t++[c])=Vk k g m t++[Qr k g (m+t.length) c]
 | [],m,c=>rfl
 | x :: t,m,c=>by
  simp only[l8,Vk,lA];rw[Zc3 k g t (m+1) c,show m+1+t.length=m+(t.length+1) by omega]
theorem Zc4(k:Nat)(g:PRef × Bool):∀ (t:Str) (m:Nat),(Vk k g m t).length=t.length
 | [],_=>rfl
 | x :: t,m=>by simp[Vk,Zc4 k g t (m+1)]
def Kr(s:Mk)(g:PRef × Bool)(t:Str)(m:Nat):Mk:={ s with ops:=s.ops++Vk s.ops.length g 0 (t.take m) }
theorem Z6x(s:Mk)(g:PRef × Bool){t:Str}{m:Nat}(h:m<=t.length):(Kr s g t m).ops.length=s.ops.length+m:=by
 unfold Kr;dsimp only;rw[lR,Zc4,l9 h]
theorem Zm6(s:Mk)(g:PRef × Bool){t:Str}{m:Nat}(h:m<t.length):X5 (Kr s g t (m+1)).ops=X5 (Kr s g t m).ops++Z9 (Qr s.ops.length g m t[m]):=by
 unfold Kr;dsimp only;rw[Z9c h,Zc3,<-lO,Z9w,l9 (by omega),lN];simp[X5]
theorem Zm7(l:Bool)(r:PRef)(c:UInt8)(hr:r.com.length=32)(w:World):(l2 178 #[(0,.int .i64 1),(1,.bool l),(2,.agg (Z1 r).toArray),(3,B c)]).run lH w=.ok (.agg (Z9 ⟨1,l,r,c⟩).toArray) w:=by
 obtain⟨o,d,n⟩:=r;dsimp only at hr
 iterate 32 (rcases d with _ | ⟨_,d⟩;· (exfalso;simp at hr;done))
 obtain rfl:d=[]:=by
  simp only[lA] at hr;exact l3.1 (by omega)
 kernel_rfl
theorem Q2{w:World}{base n k:Nat}{e:TypeId}{v:Value}{xs:List Value}(h:w.ownsRow base e k v n xs){b:Nat}(hb:v.ownBlock=some b):∃ cs,Blk w b e cs:=by
 rcases h.2 with ⟨rfl,_⟩ | ⟨g',cap,cur,rfl,_,hB,_⟩
 ·cases hb
 ·obtain rfl:g'=b:=by simpa[lX] using hb
  exact⟨cur.toList,by unfold Blk;simpa using hB⟩
theorem Zc5{w:World}{base base' n m k j:Nat}{e e':TypeId}{v v':Value}{xs ys:List Value}(h:w.ownsRow base e k v n xs)(h':w.ownsRow base' e' j v' m ys)(hne:e ≠ e'){b:Nat}(hb:v.ownBlock=some b)(hb':v'.ownBlock=some b):False:=by
 obtain⟨cs,hB⟩:=Q2 h hb;exact J7 h' hB hne hb'.symm
structure PutG (base:Nat) (W0 wr:World) (tb gb p:Nat) (R V0 V:Value) (s:Mk) (r:PRef):Prop where
 mka:MkAt base wr tb gb R V s
 at_:Blk wr p 158 (Z1 r)
 touch:Touch (gb :: p :: V0.ownBlock.toList) W0 wr
 new:Ov W0 V0 V
theorem Zm8(T:FT)(hTk:FTok T)(hnl:T.nodes.length<=400001)(base0 tb mb ab:Nat)(ps:Nat->Nat)(VT:Nat->Bool->Value)(base gb:Nat)(R V:Value)(s:Mk)(t:Str)(ht:t.length<=1000)(k:Int)(n:Int)(hk:s.kept<=(Y2 T).length)(ho:s.ops.length+t.length<=2000)(w:World)
  (hT:TreeM w base0 tb mb ab ps VT T) (h:MkAt base w tb gb R V s) (hbase:base<=w.heap.size) :
  Calls lH 168 #[.pointer (some ⟨gb,0,none⟩),.agg #[.int .i64 k,.int .i64 n,Z0 t]] w fun e w'=>e=.returned (.tuple #[])/\∃ V',MkAt base w' tb gb R V' (Kr s (Kn T s.kept) t t.length)/\Touch (gb :: V.ownBlock.toList) w w'/\Ov w V V':=by
 have hsl:(⟨t.toArray⟩:ByteArray).size=t.length:=Ui t;obtain⟨g,hg⟩:∃ g,g=Kn T s.kept:=⟨_,rfl⟩;have hgap:=iD (fun W (hW:TreeM W base0 tb mb ab ps VT T)=>Zlz T hTk hnl base0 tb mb ab ps VT s.kept hk W hW);have hgc:g.1.com.length=32:=by
  rw[hg];have hnm:∀ k,(Ya T k).com.length=32:=fun k=>by
   unfold Ya;cases hq:T.nodes[k]? with
   | none=>rfl
   | some nd=>exact (hTk.com hq).1
  unfold Kn;dsimp only;split
  ·rfl
  ·next nd hq =>
   split
   ·exact (hTk.com hq).1
   ·exact hnm _
 rw[<-hg] at hgap ⊢;replace hg:=iD hg;unfold Z0;go_enter func168,ntmps168;go_wp2_with fail;generalize hW1:lL w (lM _ 144)=W1;have hb1:Below w.heap.size w W1:=by rw[<-hW1];exact bL
 have hE1:Blk W1 w.heap.size 144 [.int .i64 k,.int .i64 n,.string ⟨t.toArray⟩]:=by rw[<-hW1];exact Blk.new_at (cs:=[.int .i64 k,.int .i64 n,.string ⟨t.toArray⟩]) rfl
 have hT1:=hT.calm hb1;have hm1:=h.calm hb1;clear hW1 h hT;replace hT1:=iD hT1;replace hm1:=iD hm1;replace hE1:=iD hE1;replace hb1:=iD hb1;go_upto_region 1 with fail;go_cut [4,5] (fun a b wx=>∃ p,a=.pointer (some ⟨p,0,none⟩)/\b=.bool g.2/\W1.heap.size<=p/\Blk wx p 158 (Z1 g.1)/\Below W1.heap.size W1 wx)
 case first =>
  obtain⟨PS,hPS⟩:∃ PS:World->Prop,∀ x,PS x ↔ Below W1.heap.size W1 x:=⟨_,fun _=>lU⟩;have s0:∀ z:Cls PS,z.1.cell? ⟨gb,0,none⟩=some (.pointer (some ⟨tb,0,none⟩)):=fun z=>(hm1.out.box.below ((hPS _).1 z.2) hm1.out.box.lt).cell 0;have s3:∀ z:Cls PS,z.1.cell? ⟨gb,3,none⟩=some (.int .i64 (s.kept:Int)):=fun z=>(hm1.out.box.below ((hPS _).1 z.2) hm1.out.box.lt).cell 3;have hbd:=(lZ W1.heap.size W1).drew;have s4:PS W1.drew:=(hPS _).2 hbd;haveI : Nonempty (Cls PS):=⟨⟨_,s4⟩⟩;replace hPS:=iD hPS;refine Ur (fun w'=>∃ z:Cls PS,w'=z.1) (.two [0,1,2,3,4,5,6,7] 8 (.one [9,10,11,12] 13 (.one [] 14 (.tail [15]))) 13 (.one [] 8 (.one [9,10,11,12] 14 (.tail [15])))) 16 [] (by kernel_rfl) (by kernel_rfl) (fun _ d _ _ _ h=>by cases d <;> exact h) ⟨⟨_,s4⟩,rfl⟩ ?_;simp only[Kz,Qj,Zj,lV,lW,Yw,Ys];repeat (first | go_big_quiet_step (fail))
  refine lC ?_;refine⟨?_,?_⟩
  ·intro K hK;go_simp;refine (hgap.out _ (hT1.out.calm hbd)).mono ?_;rintro e w2 ⟨rfl,hb2⟩;have hb12:=hbd.trans (hb2.mono hbd.size);refine hK _ _ ⟨⟨_,(hPS.out _).2 hb12⟩,rfl⟩ ?_;clear hK;repeat (first | go_big_quiet_step (fail))
   refine lC ?_;intro K hK;go_simp;have hb3:Below W1.heap.size W1 (w2.alloc (.cells (Z1 Z8).toArray 158)):=hb12.alloc hb12.size _;refine hK _ _ ⟨⟨_,(hPS.out _).2 hb3⟩,rfl⟩ ?_;clear hK;refine lC ?_;intro K hK;refine Z1g _ rfl 158 (.tmp 4) (.tmp 18) rfl w2.heap.size (Z1 g.1) rfl rfl 158 (Z1 Z8) (Blk.new_at rfl) (by simp[Z1,hgc,Z8,X2]) (Xe hgc) (Ou _) ?_;have hb4:=below_setRow hb3 hb12.size (Z1 g.1).toArray;have hB4:Blk ((w2.alloc (.cells (Z1 Z8).toArray 158)).setRow w2.heap.size (Z1 g.1).toArray) w2.heap.size 158 (Z1 g.1):=(Blk.new_at (cs:=Z1 Z8) rfl).setRow_same _;refine hK _ _ ⟨⟨_,(hPS.out _).2 hb4⟩,rfl⟩ ?_;clear hK;refine Yp (.assign (.tmp 19)) rfl rfl (.bool g.2) (fun w' _=>by unfold execOp;rfl) ?_;go_frame;refine lC ?_;have hsz:=hb12.size;replace hB4:=iD hB4;replace hb4:=iD hb4;clear hb2 hb12 hb3;go_wp2_with fail;go_meet;exact⟨_,rfl,rfl,hsz,hB4.out,hb4.out⟩
  ·intro K hK;go_simp;have hb2:Below W1.heap.size W1 (W1.drew.alloc (.cells (Z1 Z8).toArray 158)):=hbd.alloc hbd.size _;have hB2:Blk (W1.drew.alloc (.cells (Z1 Z8).toArray 158)) W1.drew.heap.size 158 (Z1 Z8):=Blk.new_at rfl;refine hK _ _ ⟨⟨_,(hPS.out _).2 hb2⟩,rfl⟩ ?_;clear hK;refine lC ?_;intro K hK;go_simp;refine (hgap.out _ (hT1.out.calm hb2)).mono ?_;rintro e w2 ⟨rfl,hb3⟩;have hb12:=hb2.trans (hb3.mono hb2.size);have hB3:=hB2.below hb3 hB2.lt;refine hK _ _ ⟨⟨_,(hPS.out _).2 hb12⟩,rfl⟩ ?_;clear hK;repeat (first | go_big_quiet_step (fail))
   refine lC ?_;intro K hK;refine Z1g _ rfl 158 (.tmp 4) (.tmp 18) rfl W1.heap.size (Z1 g.1) rfl rfl 158 (Z1 Z8) hB3 (by simp[Z1,hgc,Z8,X2]) (Xe hgc) (Ou _) ?_;have hb4:=below_setRow hb12 (lF _) (Z1 g.1).toArray;have hB4:=hB3.setRow_same (Z1 g.1);refine hK _ _ ⟨⟨_,(hPS.out _).2 hb4⟩,rfl⟩ ?_;clear hK;refine Yp (.assign (.tmp 19)) rfl rfl (.bool g.2) (fun w' _=>by unfold execOp;rfl) ?_;go_frame;refine lC ?_;replace hB4:=iD hB4;replace hb4:=iD hb4;clear hb2 hb12 hb3;go_wp2_with fail;go_meet;exact⟨_,rfl,rfl,lF _,hB4.out,hb4.out⟩
 case rest =>
  obtain⟨p,rfl,rfl,hp,hBp,hbc⟩:=hcut;have hE2:wc.cell? ⟨w.heap.size,2,none⟩=some (.string ⟨t.toArray⟩):=(hE1.out.below hbc hE1.out.lt).cell 2;have hm2:=hm1.out.calm hbc;clear hgap;have hpe:=iD hp;replace hBp:=iD hBp;replace hbc:=iD hbc;replace hm2:=iD hm2;go_wp2_with fail;go_loopw [5,24] (fun l i wr=>∃ (m:Nat) (V':Value),m<=t.length/\l=.bool (if m=0 then g.2 else false)/\i=.int .i64 m/\PutG base wc wr tb gb p R V V' (Kr s g t m) (if m=0 then g.1 else Js (s.ops.length+m))) (fun _ i _=>t.length - (intOf i).toNat)
  case atStart=>exact⟨0,V,Nat.zero_le _,rfl,rfl,⟨by simpa[Kr,Vk] using hm2.out,hBp.out,Touch.refl _ _,Ov.refl _ _⟩⟩
  case round =>
   obtain⟨m,V',hm,rfl,rfl,hst⟩:=hrel;obtain⟨FA,fc,rfl,_,_⟩:=Z6 hst.mka.ops;by_cases hlt:m<t.length
   ·have i1:(0:Int)<=(m:Int):=by omega
    have i2:(m:Int)<(t.length:Int):=by omega
    have hln:=Z6x s g (t:=t) (m:=m) (by omega);obtain⟨q,hq⟩:∃ q,q=(Kr s g t m).ops.length:=⟨_,rfl⟩;obtain⟨lf,hlf⟩:∃ lf,lf=(if m=0 then g.2 else false):=⟨_,rfl⟩;obtain⟨r,hr⟩:∃ r,r=(if m=0 then g.1 else Js (s.ops.length+m)):=⟨_,rfl⟩;have hrc:r.com.length=32:=by
     rw[hr];split
     ·exact hgc
     ·rfl
    have hx:Qr s.ops.length g m t[m]=⟨1,lf,r,t[m]⟩:=by rw[hlf,hr];rfl
    have hst':=hst;rw[<-hr,<-hq] at hst';rw[<-hlf];have hrow:=hst'.mka.ops;rw[<-hq] at hrow;have hbx:=hst'.mka.box;have hbx':Blk wr gb 259 (mk5 tb R s.at_ s.kept (.slice FA q fc)):=hbx;have cV:wr.cell? ⟨gb,4,none⟩=some (.slice FA q fc):=hbx'.cell 4;have hq':q=s.ops.length+m:=by rw[hq,hln]
    have hEr:Blk wr w.heap.size 144 [.int .i64 k,.int .i64 n,.string ⟨t.toArray⟩]:=by
     refine (hE1.out.below hbc.out hE1.out.lt).touch hst.touch ?_;have h1:=hm2.out.box.ne_ (hE1.out.below hbc.out hE1.out.lt) (by decide);have h2:=hBp.out.ne_ (hE1.out.below hbc.out hE1.out.lt) (by decide);have h3:=J7 hm2.out.ops (hE1.out.below hbc.out hE1.out.lt) (by decide);simp only[lY,not_or];exact⟨fun e=>h1 e.symm,fun e=>h2 e.symm,fun e=>h3 (lD.1 e).symm⟩
    replace hq:=iD hq;replace hq':=iD hq';replace hln:=iD hln;replace hlf:=iD hlf;replace hr:=iD hr;replace hst:=iD hst;go_upto_region 5 with fail;obtain⟨PS,hPS⟩:∃ PS:World->Prop,∀ x,PS x ↔ x.cell? ⟨gb,4,none⟩=some (.slice FA q fc)/\x.cell? ⟨w.heap.size,2,none⟩=some (.string ⟨t.toArray⟩)/\Blk x p 158 (Z1 r):=⟨_,fun _=>lU⟩;have s1:∀ z:Cls PS,z.1.cell? ⟨gb,4,none⟩=some (.slice FA q fc):=fun z=>((hPS _).1 z.2).1;have s2:∀ z:Cls PS,z.1.cell? ⟨w.heap.size,2,none⟩=some (.string ⟨t.toArray⟩):=fun z=>((hPS _).1 z.2).2.1;have s3:Hid (∀ w',(∃ z:Cls PS,w'=z.1)->Blk w' p 158 (Z1 r)):=iD (by rintro _ ⟨z,rfl⟩;exact ((hPS _).1 z.2).2.2);have s4:PS wr.drew:=(hPS _).2 ⟨cV,hEr.cell 2,hst'.at_.drew⟩;haveI : Nonempty (Cls PS):=⟨⟨_,s4⟩⟩;replace hPS:=iD hPS;refine Z14 (fun w'=>∃ z:Cls PS,w'=z.1) [0,1,2,3,4,5,6,7,8,9,10,11] [12,13] 14 [15,16] (by kernel_rfl) (by kernel_rfl) (fun _ d _ _ _ h=>by cases d <;> exact h) ⟨⟨_,s4⟩,rfl⟩ ?_;simp only[Zj,lV,lW,Yw,Ys];repeat (first | go_big_quiet_step (fail) | (refine Yf 158 (.tmp 4) rfl rfl p 0 rfl 158 (Z1 r) (Z1 r) [] s3.out (by simp) _ underlying158 rfl (Xe hrc) ?_;go_frame))
    refine Yp (.build 178 #[(0,.const (.int .i64 1)),(1,.tmp 32),(2,.tmp 33),(3,.tmp 37)]) rfl rfl (.agg (Z9 ⟨1,lf,r,t[m]⟩).toArray) (fun w' _=>Zhf 178 0 1 2 3 (.const (.int .i64 1)) (.tmp 32) (.tmp 33) (.tmp 37) rfl (.int .i64 1) (.bool lf) (.agg (Z1 r).toArray) (B t[m]) (.agg (Z9 ⟨1,lf,r,t[m]⟩).toArray) rfl rfl rfl rfl (Zm7 lf r t[m] hrc w')) ?_;go_frame;repeat (first | go_big_quiet_step (fail))
    refine lC ?_;intro K hK;refine Z07 _ _ rfl _ (Uk 80 (.tmp 38) rfl _ _ rfl (Z9v ⟨1,lf,r,t[m]⟩ hrc _)) ?_;have hB1:Below wr.heap.size wr (wr.drew.alloc (.cells (Z9 ⟨1,lf,r,t[m]⟩).toArray 178)):=by go_grown
    refine hK _ _ ⟨⟨_,(hPS.out _).2 ⟨(hbx'.below hB1 hbx'.lt).cell 4,(hEr.below hB1 hEr.lt).cell 2,hst'.at_.below hB1 hst'.at_.lt⟩⟩,rfl⟩ ?_;intro K' hK';have hsz:=hst'.touch.size;have hsz1:=hbc.out.size;have hsz2:=hb1.out.size;refine V5 _ rfl (.tmp 31) (.tmp 39) 80 rfl base 178 _ 37 72 underlying80 Z5j (.slice FA q fc) q (X5 (Kr s g t m).ops) rfl (hrow.drew.alloc _) (fun _=>True) (some ⟨wr.heap.size,0,none⟩) 1 1 (Z9 ⟨1,lf,r,t[m]⟩) rfl (by simp[Z9,Z1,hrc]) (Rd.of_blk (cs:=Z9 ⟨1,lf,r,t[m]⟩) (r:=[]) (Blk.new_at rfl) (by simp) trivial) (Uj _) (by have:=hq'.out;unfold maxLen;omega) (by have:=hq'.out;omega) (by simp;omega) ?_;intro v4 W4 hrow4 hg4 hv4;obtain⟨GA,gc,rfl,_,_⟩:=Z6 hrow4;have nrow:∀ g t' cs,Blk wr g t' cs->t' ≠ 178->some g ≠ (lE FA q fc).ownBlock:=fun g t' cs hB hn e=>J7 hrow hB hn e;have hg3:Blk W4 gb 259 (mk5 tb R s.at_ s.kept (.slice FA q fc)):=(hbx'.below hB1 hbx'.lt).grown hg4 (nrow _ _ _ hbx' (by decide));have hE4:Blk W4 w.heap.size 144 [.int .i64 k,.int .i64 n,.string ⟨t.toArray⟩]:=(hEr.below hB1 hEr.lt).grown hg4 (nrow _ _ _ hEr (by decide));have hp4:Blk W4 p 158 (Z1 r):=(hst'.at_.below hB1 hst'.at_.lt).grown hg4 (nrow _ _ _ hst'.at_ (by decide));refine hK' _ _ ⟨⟨_,(hPS.out _).2 ⟨hg3.cell 4,hE4.cell 2,hp4⟩⟩,rfl⟩ ?_;have f4:=hg3.frozen 4;have g4:∀ u,(W4.setCell ⟨gb,4,none⟩ u).cell? ⟨gb,4,none⟩=some u:=fun u=>(hg3.set_ 4 u).cell 4;have hp5:∀ u,Blk (W4.setCell ⟨gb,4,none⟩ u) p 158 (Z1 r):=fun u=>hp4.far (hp4.ne_ hg3 (by decide)) u
    change wpList _ _ _ _ _ _
    go_frame;have c4:W4.cell? ⟨gb,4,none⟩=some (.slice FA q fc):=hg3.cell 4;go_wp2_with (first
     | (refine Zo rfl 158 (.tmp 4) (.tmp 48) rfl p (Z1 (Js (q+1))) rfl rfl 158 (Z1 r) (hp5 _) (by simp[Z1,hrc,Js,X2]) (Xe rfl) (Z9u _) ?_)
     | fail)
    have hne:gb ≠ p:=hg3.ne_ hp4 (by decide);have hW4:Touch (lE FA q fc).ownBlock.toList wr W4:=(Touch.ofBelow (L:=(lE FA q fc).ownBlock.toList) hB1).trans (Touch.grown (L:=(lE FA q fc).ownBlock.toList) hg4 (fun b hb=>lD.2 hb)) (fun i hi=>.inl hi);have t6:Touch [gb,p] W4 ((W4.setCell ⟨gb,4,none⟩ (.slice GA (q+1) gc)).setRow p (Z1 (Js (q+1))).toArray):=(Touch.setCell _ (by simp)).trans (Touch.setRow (by simp) _) (fun i hi=>.inl hi);have hql:(Kr s g t (m+1)).ops.length=q+1:=by
     rw[Z6x s g (by omega),hq'.out];omega
    have hn6:∀ b,b ∈ [gb,p]->b=gb ∨ b=p:=fun b hb=>by simpa using hb
    refine⟨⟨m+1,.slice GA (q+1) gc,by omega,rfl,by go_num,⟨⟨hst'.mka.lo,?_,?_,?_,hst'.mka.com⟩,?_,?_,?_⟩⟩,by simp[intOf];omega⟩
    ·exact (hg3.set_ 4 _).setRow_far hne _
    ·refine Zk (Zk hst'.mka.refs hW4 (fun b hb hm=>?_)) t6 (fun b hb hm=>?_)
     ·have hm:=lD.1 hm;exact Zc5 hst'.mka.refs hrow (by decide) hb hm
     ·have hrr:=Zk hst'.mka.refs hW4 (fun b hb hm=>Zc5 hst'.mka.refs hrow (by decide) hb (lD.1 hm));rcases hn6 b hm with rfl | rfl
      ·exact J7 hrr hg3 (by decide) hb.symm
      ·obtain⟨cs,hBB⟩:=Q2 hm1.out.refs hb;have h1:=hBB.lt;have h2:=hpe.out;omega
    ·rw[hql,Zm6 s g hlt,hx];refine Zk hrow4 t6 (fun b hb hm=>?_);rcases hn6 b hm with rfl | rfl
     ·exact J7 hrow4 hg3 (by decide) hb.symm
     ·exact J7 hrow4 hp4 (by decide) hb.symm
    ·rw[if_neg (by omega)];have e:q+1=s.ops.length+(m+1):=by rw[hq'.out];omega
     rw[<-e];exact (hp5 _).setRow_same _
    ·refine (hst'.touch.trans hW4 (fun i hi=>?_)).trans t6 (fun i hi=>.inl (by rcases hn6 i hi with rfl | rfl <;> simp));have hi:=lD.1 hi;rcases hst'.new with e | e
     ·exact .inl (lP _ (lP _ (lD.2 (by rw[<-e];exact hi))))
     ·exact .inr (e i hi)
    ·rcases hv4 with e | e
     ·rcases hst'.new with e' | e'
      ·exact .inl (e.trans e')
      ·exact .inr (fun g hg=>e' g (by rw[<-e];exact hg))
     ·refine .inr (fun g hg=>?_);rw[e] at hg
      injection hg with hg
      simp at hg;omega
   ·have hmt:m=t.length:=by omega
    subst hmt;generalize (if t.length=0 then g.2 else false)=lf;replace hst:=iD hst;go_wp2_with fail;go_returns;replace hst:=hst.out;have hs1:=hb1.out.size;have hs2:=hbc.out.size;have hbw:=hb1.out.trans (hbc.out.mono hs1);refine⟨rfl,_,hst.mka,(Touch.ofBelow (L:=gb :: V.ownBlock.toList) hbw).trans hst.touch (fun i hi=>?_),?_⟩
    ·rcases lY.1 hi with rfl | hi
     ·exact .inl (by simp)
     ·rcases lY.1 hi with rfl | hi
      ·have:=hpe.out;exact .inr (by omega)
      ·exact .inl (lP _ hi)
    ·rcases hst.new with e | e
     ·exact .inl e
     ·exact .inr (fun g hg=>l7 hbw.size (e g hg))
end
section
open Go.RowKit
def Jc(c:PCom):PNd:=⟨idC c,c.parents⟩
def Z5(L:List PCom):List PNd:=L.map Jc
structure HistOk (L:List PCom):Prop where
 len:L.length<=200
 next:∀ (i:Nat) (c:PCom),L[i]?=some c->NextOk (Z5 (L.take i)) L c
theorem Ks{L:List PCom}{i:Nat}{x:PNd}(h:(Z5 L)[i]?=some x):∃ c,L[i]?=some c/\x=Jc c:=by
 unfold Z5 at h;rw[nA] at h;cases hc:L[i]? with
 | none=>rw[hc] at h;cases h
 | some c=>rw[hc] at h;exact⟨c,rfl,by simpa using h.symm⟩
theorem Kg{L:List PCom}{i:Nat}{c:PCom}(h:L[i]?=some c):(Z5 L)[i]?=some (Jc c):=by
 unfold Z5;rw[nA,h];rfl
theorem Zm9{L:List PCom}{i:Nat}{c:PCom}(h:L[i]?=some c):Z5 (L.take (i+1))=Z5 (L.take i)++[Jc c]:=by
 obtain⟨hl,hg⟩:=lG.1 h;unfold Z5;rw[l4 hl,lT,hg];rfl
theorem Zc6(L:List PCom)(i:Nat)(h:i<=L.length):(Z5 (L.take i)).length=i:=by
 unfold Z5;rw[lB,nB];omega
theorem Qd{L:List PCom}{i j:Nat}{c:PCom}(h:(L.take i)[j]?=some c):j<i/\L[j]?=some c:=by
 rw[nC] at h;split at h
 ·exact⟨by assumption,h⟩
 ·cases h
theorem Z20{L:List PCom}{i j:Nat}{c:PCom}(hj:j<i)(h:L[j]?=some c):(L.take i)[j]?=some c:=by
 rw[nC,if_pos hj,h]
theorem HistOk.nds{L:List PCom}(h:HistOk L)(i:Nat):NdOk (Z5 (L.take i)):=by
 have hnew:∀ (a b:Nat) (c d:PCom),a<b->L[a]?=some c->L[b]?=some d->idC c ≠ idC d:=fun a b c d hab ha hb=>(h.next b d hb).new (Jc c) (List.mem_of_getElem? (Kg (Z20 hab ha)));refine⟨?_,fun x hx=>?_,fun a b x y hx hy he=>?_,fun a x hx d hd=>?_⟩
 ·have:=h.len;unfold Z5;rw[lB,nB];omega
 ·obtain⟨j,hj,rfl⟩:=nD hx;obtain⟨c,hc,e⟩:=Ks (lI hj);rw[e];have hn:=h.next j c (Qd hc).2;exact⟨Q0 c,hn.fit.par.ok,hn.may.par⟩
 ·obtain⟨c,hc,rfl⟩:=Ks hx;obtain⟨d,hd,rfl⟩:=Ks hy;have h1:=(Qd hc).2;have h2:=(Qd hd).2;rcases Nat.lt_trichotomy a b with hab | hab | hab
  ·exact absurd he (hnew a b c d hab h1 h2)
  ·exact hab
  ·exact absurd he.symm (hnew b a d c hab h2 h1)
 ·obtain⟨c,hc,rfl⟩:=Ks hx;obtain⟨hai,h1⟩:=Qd hc;obtain⟨j,y,hj,hy⟩:=(h.next a c h1).par d hd;obtain⟨e,he,rfl⟩:=Ks hj;obtain⟨hja,h2⟩:=Qd he;exact⟨j,Jc e,hja,Kg (Z20 (by omega) h2),hy⟩
theorem HistOk.fit{L:List PCom}(h:HistOk L):∀ c ∈ L,ComFit c:=fun c hc=>by
 obtain⟨j,hj,rfl⟩:=nD hc;exact (h.next j _ (lI hj)).fit
theorem HistOk.ndsAll{L:List PCom}(h:HistOk L):NdOk (Z5 L):=by
 have:=h.nds L.length
 rwa [List.take_length] at this
theorem Z6y(N:List PNd)(x:PNd):byN (N++[x])=byN N++[(.agg (x.id.map B).toArray,.int .i64 (N.length:Int))]:=by
 unfold byN;rw[lR,List.length_singleton,List.range_succ,lT]
 congr 1
 ·refine List.map_congr_left (fun i hi=>?_);have hi:=List.mem_range.1 hi;have : Q1 (N++[x]) i=Q1 N i:=by
   unfold Q1;rw[lJ hi]
  rw[this]
 ·have : Q1 (N++[x]) N.length=x.id:=Uv (by rw[lK (lF _)];simp);simp[this]
theorem Zc7:∀ (N:List PNd) (vs:List Value) (x:PNd) (u:Value),vs.length=N.length->Jz (N++[x]) (vs++[u])=Jz N vs++Yq x.id u
 | [],[],x,u,_=>by simp[Jz,Yq]
 | y :: N,v :: vs,x,u,h=>by
  have:=Zc7 N vs x u (by simpa using h);simp only[l8,Jz,this,lO,Yq]
theorem Zc8:∀ (N:List PNd) (vs:List Value) (i:Nat) (x:PNd) (u:Value),(∀ x ∈ N,x.id.length=32)->N[i]?=some x->vs[i]?=some u->(∀ j v,(x.id.map B)[j]?=some v->(Jz N vs)[i*33+j]?=some v)/\(Jz N vs)[i*33+32]?=some u
 | [],_,i,x,u,_,h,_=>by simp at h
 | _ :: _,[],i,x,u,_,_,h=>by simp at h
 | y :: N,v :: vs,0,x,u,hf,hx,hu=>by
  obtain rfl:y=x:=by simpa using hx
  obtain rfl:v=u:=by simpa using hu
  have h2:=hf y (by simp);refine⟨fun j w hw=>?_,?_⟩
  ·have hj:j<(y.id.map B).length:=(lG.1 hw).1;simp only[Jz,lS,lN];rw[lJ hj];exact hw
  ·simp only[Jz,lS,lN];rw[lK (by simp[h2])];simp[h2]
 | y :: N,v :: vs,i+1,x,u,hf,hx,hu=>by
  have h2:=hf y (by simp);obtain⟨h3,h4⟩:=Zc8 N vs i x u (fun x hx=>hf x (by simp[hx])) (by simpa using hx) (by simpa using hu);have e:∀ k,(Jz (y :: N) (v :: vs))[(i+1)*33+k]?=(Jz N vs)[i*33+k]?:=fun k=>by
   simp only[Jz];rw[lK (by simp only[lB,h2];omega),show (i+1)*33+k - (y.id.map B).length=(i*33+k)+1 by simp only[lB,h2];omega];rfl
  exact⟨fun j w hw=>by rw[e];exact h3 j w hw,by rw[e];exact h4⟩
def Jd(w:World)(base:Nat)(v:Value)(N:List PNd):Prop:=∃ vs,vs.length=N.length/\w.ownsRow base 94 33 v N.length (Jz N vs)/\∀ (k:Nat) (x:PNd) u,N[k]?=some x->vs[k]?=some u->Z7 w (Yc w base) u x.par
theorem Jd.nil{w:World}{base:Nat}:Jd w base Z2 []:=⟨[],rfl,⟨rfl,.inl ⟨rfl,rfl⟩⟩,fun k x u h _=>by simp at h⟩
theorem Jd.form{w:World}{base:Nat}{v:Value}{N:List PNd}(h:Jd w base v N):∃ A c,v=.slice A N.length c/\N.length<=c:=by
 obtain⟨vs,_,ho,_⟩:=h;obtain⟨A,c,e,hc,_⟩:=Z6 ho;exact⟨A,c,e,hc⟩
theorem Jd.keepB{w w':World}{base:Nat}{v:Value}{N:List PNd}(h:Jd w base v N)(hb:Below w.heap.size w w'):Jd w' base v N:=by
 obtain⟨vs,hl,ho,hh⟩:=h;exact⟨vs,hl,Zk (L:=[]) ho (Touch.ofBelow hb) (by simp),fun k b u h1 h2=>(hh k b u h1 h2).keepB hb⟩
theorem Jd.keepT{w w':World}{L:List Nat}{base:Nat}{v:Value}{N:List PNd}(h:Jd w base v N)(ht:Touch L w w')(hd:∀ b ∈ L,∀ cs,¬ Blk w b 47 cs)(hn:∀ b ∈ L,∀ cs,¬ Blk w b 94 cs):Jd w' base v N:=by
 obtain⟨vs,hl,ho,hh⟩:=h;refine⟨vs,hl,Zk ho ht (fun b hb hbL=>?_),fun k b u h1 h2=>(hh k b u h1 h2).keep (fun b cs _ hB=>hB.touch ht (fun hbL=>hd b hbL cs hB))⟩;obtain⟨cs,hB⟩:=Q2 ho hb;exact hn b hbL cs hB
theorem Jd.nds{w:World}{base:Nat}{v:Value}{N:List PNd}(h:Jd w base v N)(hf:∀ x ∈ N,x.id.length=32):NdsIs w (base<=·) v N:=by
 obtain⟨vs,hl,ho,hh⟩:=h;obtain⟨A,c,rfl,_,_⟩:=Z6 ho;refine⟨A,c,rfl,fun i x hx=>?_⟩;have hi:i<N.length:=(lG.1 hx).1;have hu:vs[i]?=some vs[i]:=lI (by omega);obtain⟨g,cap,rest,e,hg,hB⟩:∃ g cap rest,lE A N.length c=.slice (some ⟨g,0,none⟩) N.length cap/\base<=g/\Blk w g 94 (Jz N vs++rest):=by
  rcases ho.2 with ⟨_,h0⟩ | ⟨g,cap,cur,h2,h3,h4,h5,h6,h7,h8⟩
  ·omega
  ·refine⟨g,cap,cur.toList.drop (N.length*33),h2,h3,?_⟩;rw[<-h8,l5];exact h4
 injection e with e1 _ _
 subst e1;obtain⟨h3,h4⟩:=Zc8 N vs i x vs[i] hf hx hu;have hin:∀ k v,(Jz N vs)[k]?=some v->w.cell? ⟨g,k,none⟩=some v:=fun k v hk=>by
  rw[hB.cell,lJ (lG.1 hk).1,hk]
 exact⟨g,vs[i],rfl,hB.lt,hg,fun j v hv=>hin _ v (h3 j v hv),hin _ _ h4,(hh i x _ hx hu).stay (fun _ _ _=>rfl) (fun _ h _=>h.1)⟩
theorem Jd.snoc{w':World}{base:Nat}{v':Value}{N:List PNd}{vs:List Value}{x:PNd}{u:Value}(hl:vs.length=N.length)(hh:∀ (k:Nat) (x:PNd) u,N[k]?=some x->vs[k]?=some u->Z7 w' (Yc w' base) u x.par)
  (hu:Z7 w' (Yc w' base) u x.par) (hrow:w'.ownsRow base 94 33 v' (N.length+1) (Jz N vs++Yq x.id u)):Jd w' base v' (N++[x]):=by
 refine⟨vs++[u],by simp[hl],by rw[Zc7 N vs x u hl];simpa using hrow,fun k y u' h1 h2=>?_⟩;by_cases hk:k<N.length
 ·rw[lJ hk] at h1;rw[lJ (by omega)] at h2;exact hh k y u' h1 h2
 ·rw[lK (by omega)] at h1;rw[lK (by omega)] at h2;have hk':k=N.length:=by
   have:=(lG.1 h1).1;simp at this;omega
  subst hk';simp only[nE,nF,nG] at h1;rw[hl] at h2;simp only[nE,nF,nG] at h2;subst h1;subst h2;exact hu
end
end Go.Proofs.YtfdimggmljkkbaaGreatDoor
