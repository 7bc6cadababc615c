import Derived.Test.YtefjlobdifjogaaGreatDoorP24
import Derived.Test.YtefjlobdifjogaaGreatDoorP29
open Go renaming wpQuiet_nil → lA
open Go.Proofs.Tryz renaming prog → lB
open Go.RowKit.Below renaming refl → lE
open List renaming length_take → lD
open Nat renaming le_refl → lC
namespace Go.Proofs.YtefjlobdifjogaaGreatDoor
set_option maxRecDepth 100000
set_option maxHeartbeats 16000000
open Go.Lib renaming hid → iD
open Go.Proofs.Tryz
open Go.RowKit
theorem Zn5{x c:UInt8}(h:x=x ^^^ c):c=0:=by
 have h2:x ^^^ x=x ^^^ (x ^^^ c):=by rw[<-h]
 simpa[<- UInt8.xor_assoc] using h2.symm
theorem Zw.room{w:World}{base g n c:Nat}{xs:Str}(h:Zw w base (.slice (some ⟨g,0,none⟩) n c) xs):xs.length<=c:=by
 obtain⟨A,c',he,hc⟩:=h.form
 injection he with _ _ e3
 subst e3;exact hc
theorem Zn6(w:World)(g n cap k:Nat)(hk:k<=cap) :
  (Instr.sliceAt 57 (.slice (some ⟨g,0,none⟩) n cap) none (some (.int .i64 (k:Int))) none).run lB w=.ok (.slice (some ⟨g,0,none⟩) k cap) w:=by
 exact Z44 (P:=lB) w 57 5 1 underlying57 (by kernel_rfl) _ n cap k hk
theorem Zn7(w:World){o:Oper}{a:Act}{x hi:Operand}(ho:o.op=.slice 57 x none (some hi) none)(g n cap k:Nat)(hx:a.eval x=.slice (some ⟨g,0,none⟩) n cap)(hh:a.eval hi=.int .i64 (k:Int))(hk:k<=cap) :
  (execOp a.eval o).run lB w=.ok (.value (.slice (some ⟨g,0,none⟩) k cap)) w:=by
 simp only[execOp,ho,hx,hh,Option.map_some,Option.map_none,Sem.run_bind,Zn6 w g n cap k hk,Result.andThen_ok,Sem.run_pure]
theorem spoilt_any(m:PMsg)(o n:Value)(x:Int)(c:UInt8)(w:World)(hM:MsgAt w m o n)(hK:Zm w) :
  Calls lB 6 #[.agg (Zx m o n).toArray,.int .i64 x,B c] w fun e w'=>e=.returned (.bool true)/\Below w.heap.size w w':=by
 have hwr:=iD (fun W hb=>Zbh hM W hb hK);have hal:=iD (fun W (hb:Below w.heap.size w W)=>Zb8 W (keys_below hK hb));have hKb:=iD (fun W (hb:Below w.heap.size w W)=>keys_below hK hb);have hrd:=iD (fun (t:Str) (ht:t.length<=140737488355328) W (hb:Below w.heap.size w W)=>Z2t t ht W (keys_below hK hb));have hms:(lB.info? 25).map (·.size)=some (Zx m o n).length:=Xf m o n;generalize hW1:w.alloc (.cells (Zx m o n).toArray 25)=w1;have hb1:Below w.heap.size w w1:=by rw[<-hW1];exact bL
 have hM1:Blk w1 w.heap.size 25 (Zx m o n):=by rw[<-hW1];exact Blk.new_at rfl
 obtain⟨ML,hML⟩:∃ ML,ML=Zx m o n:=⟨_,rfl⟩;rw[<-hML] at hW1 hM1 hms hwr ⊢;have hMa:=hM;clear hM;replace hMa:=iD hMa;replace hms:=iD hms;replace hML:=iD hML;unfold B;go_enter func6,ntmps6;go_upto_region 1 with fail;clear hW1;replace hM1:=iD hM1;replace hb1:=iD hb1;go_wp2_with (first
  | (refine Zy rfl 25 (.tmp 3) rfl w.heap.size rfl 25 ML hM1.out _ underlying25 rfl hms.out ?_;go_frame)
  | fail)
 refine (hwr.out w1 hb1.out).mono ?_;rintro e w2 ⟨t,er,rfl,hT,htl,hb12⟩;have hb2:=hb1.out.trans (hb12.mono hb1.out.size);clear hM1 hb1 hb12 hwr hms;have hal2:=iD (hal.out w2 hb2);replace hb2:=iD hb2;rcases hT with ⟨her,hm,ht⟩ | ⟨her,ht⟩
 case inr =>
  have hne:(er != 0)=true:=by simpa using her
  replace her:=iD her;subst ht;go_wp2_with fail;refine hal2.out.mono ?_;rintro e w3 ⟨rfl,hb23⟩;have hb3:=iD (hb2.out.trans (hb23.mono hb2.out.size));clear hal2 hb2 hb23;go_wp2_with fail;go_returns;exact⟨rfl,hb3.out⟩
 case inl =>
 have hne:(er != 0)=false:=by rw[her];rfl
 replace her:=iD her;by_cases hc:bv c=0
 ·go_wp2_with fail;refine hal2.out.mono ?_;rintro e w3 ⟨rfl,hb23⟩;have hb3:=iD (hb2.out.trans (hb23.mono hb2.out.size));clear hal2 hb2 hb23;go_wp2_with fail;go_returns;exact⟨rfl,hb3.out⟩
 ·have hl36:36<=t.length:=by rw[ht];exact Zn4 m
  have hcz:(bv c == 0)=false:=by simpa using hc
  have hl36':decide ((t.length:Int)<36)=false:=by simp;omega
  obtain⟨k,hk,hkv⟩:=Zn3 x t.length (by omega) (by omega);replace ht:=iD ht;clear hal2;go_upto_region 7 with fail;clear hkv;go_upto_region 8 with (first
   | (refine Z59 rfl (.tmp 39) rfl t rfl w2.heap.size (lC _) (by omega) ?_;intro w3 cb hb23 hB3;go_frame)
   | fail)
  obtain⟨_,_,x3,f3⟩:=hB3.spot hk;have hg:t.getD k 0=t[k]:=by simp[List.getD,hk]
  rw[hg] at x3;have hB4:=hB3.set k (t[k] ^^^ c) hk;clear hB3 hg;replace hB4:=iD hB4;replace hb23:=iD hb23;go_upto_region 9 with fail;rw[b_xor]
  change Code.wp _ _ _ _ (w3.setCell ⟨w2.heap.size,k,none⟩ (B (t[k] ^^^ c)))
  generalize hW4:w3.setCell _ _=w4 at hB4 ⊢;have hb34:Below w2.heap.size w2 w4:=by rw[<-hW4];exact hb23.out.setCell (lC _) _
  have hb4:=hb2.out.trans (hb34.mono hb2.out.size);clear hW4 hb34 hb23 x3 f3;have hsl:(t.set k (t[k] ^^^ c)).length=t.length:=List.length_set;obtain⟨s,hs⟩:∃ s,s=t.set k (t[k] ^^^ c):=⟨_,rfl⟩;rw[<-hs] at hB4 hsl;have hrd4:=iD (hrd.out s (by omega) w4 hb4);replace hs:=iD hs;replace hb4:=iD hb4;clear hrd;have hS4:Hid (Rd w4 (w2.heap.size<=·) (some ⟨w2.heap.size,0,none⟩) (s.map B)):=iD hB4.out.rd;go_wp2_with (first
   | (refine Qf rfl 57 9 (.tmp 49) rfl 5 underlying57 underlying5 underlying9 _ s cb (by rw[hsl];rfl) hS4.out ?_;go_frame)
   | fail)
  refine hrd4.out.mono ?_;rintro e w5 ⟨hb45,hRd⟩;obtain⟨NL,er2,rfl,hNlen,hNone,hNcase⟩:∃ NL er2,e=.returned (.tuple #[.agg NL.toArray,.int .i64 er2])/\Zk.length=NL.length/\(∀ v ∈ NL,v.oneCell'=true) /\
    ((er2=0/\∃ m',Xp s=some m') ∨ (er2 ≠ 0/\NL=Zk)):=by
   rcases hRd with ⟨m',o',n',hmm,rfl,ho,hn,_,_⟩ | ⟨hno,er2,her2,rfl⟩
   ·obtain⟨A1,c1,rfl,_,_⟩:=Za ho;obtain⟨A2,c2,rfl,_,_⟩:=Za hn;exact⟨_,_,rfl,rfl,by simp[Zx,Value.oneCell'],.inl ⟨rfl,m',hmm⟩⟩
   ·exact⟨_,_,rfl,rfl,U1,.inr ⟨her2,rfl⟩⟩
  have hS5:=iD (hS4.out.stayB hb45);have hb5:=iD (hb4.out.trans (hb45.mono hb4.out.size));have hNs:(lB.info? 25).map (·.size)=some NL.length:=by rw[<-hNlen];exact Xf Xr Z0 Z0
  replace hNlen:=iD hNlen;replace hNone:=iD hNone;replace hNcase:=iD hNcase;replace hNs:=iD hNs;have hcap:t.length<=cb:=by have:=hB4.out.room;omega
  replace hcap:=iD hcap;clear hRd hrd4 hB4 hS4 hb4 hb45;go_upto_region 10 with (first
   | (refine Zd rfl 25 (.tmp 10) (.tmp 52) rfl w5.heap.size NL rfl rfl 25 Zk (Blk.new_at rfl) hNlen.out hNs.out hNone.out ?_;go_frame)
   | fail)
  generalize hW6:World.setRow _ _ _=w6;have hN6:Blk w6 w5.heap.size 25 NL:=by rw[<-hW6];exact (Blk.new_at (cs:=Zk) rfl).setRow_same _
  have hb56:Below w5.heap.size w5 w6:=by rw[<-hW6];exact below_setRow bL (lC _) _
  have hS6:=iD (hS5.out.stayB hb56);have hb6:=iD (hb5.out.trans (hb56.mono hb5.out.size));clear hW6 hb56 hS5 hb5;replace hN6:=iD hN6;obtain⟨n0,hn0⟩:∃ n0:Nat,n0=t.length - 32:=⟨_,rfl⟩;have hsub:(t.length:Int) - 32=(n0:Int):=by omega
  replace hn0:=iD hn0;go_upto_region 11 with fail;clear hsub;replace hn0:=hn0.out;obtain⟨b1,hb1'⟩:∃ b1,b1=s.take n0:=⟨_,rfl⟩;obtain⟨b2,hb2'⟩:∃ b2,b2=t.take n0:=⟨_,rfl⟩;obtain⟨h1,hh1⟩:∃ h1,h1=Y6 b1:=⟨_,rfl⟩;obtain⟨h2,hh2⟩:∃ h2,h2=Y6 b2:=⟨_,rfl⟩;have h1l:h1.length=32:=by rw[hh1];exact J2 b1
  have h2l:h2.length=32:=by rw[hh2];exact J2 b2
  have hn0t:n0<=t.length:=by omega
  have hn0c:n0<=cb:=by have:=hcap.out;omega
  have hb1l:b1.length=n0:=by rw[hb1',lD];omega
  have hb2l:b2.length=n0:=by rw[hb2',lD];omega
  have htk:Hid (t.take n0=b2):=iD hb2'.symm;have hnb:n0<=281474976710656:=by omega
  have hsm1:Hid (∀ W,Below w6.heap.size w6 W->Rd W (w2.heap.size<=·) (some ⟨w2.heap.size,0,none⟩) ((s.map B).take n0)->Calls lB 20 #[.slice (some ⟨w2.heap.size,0,none⟩) n0 cb] W fun e w'=>e=.returned (.agg (h1.map B).toArray)/\Below W.heap.size W w'):=iD (fun W hb hr=>by
   have h:=Ql b1 (some ⟨w2.heap.size,0,none⟩) cb W (by rw[hb1',List.map_take];exact hr.weak (fun _ h _=>h)) (by omega) (by omega) (hKb.out W (hb6.out.trans (hb.mono hb6.out.size)));rw[hb1l,<-hh1] at h;exact h)
  have hsm2:Hid (∀ W A c,Below w6.heap.size w6 W->Rd W (· < W.heap.size) A (b2.map B)->b2.length<=c->Calls lB 20 #[.slice A b2.length c] W fun e w'=>e=.returned (.agg (h2.map B).toArray)/\Below W.heap.size W w'):=iD (fun W A c hb hr hc=>by
   have h:=Ql b2 A c W hr hc (by omega) (hKb.out W (hb6.out.trans (hb.mono hb6.out.size)));rw[<-hh2] at h;exact h)
  obtain⟨q,hq⟩:∃ q,(h1 == h2)=q:=⟨_,rfl⟩;obtain⟨p3,hp3⟩:∃ q,decide ((3:Int)<=(k:Int))=q:=⟨_,rfl⟩;obtain⟨p4,hp4⟩:∃ q,decide ((k:Int)<(n0:Int))=q:=⟨_,rfl⟩;have hp4n:decide (k<n0)=p4:=by rw[<-hp4];exact decide_eq_decide.2 (by omega)
  have hp3n:decide (3<=k)=p3:=by rw[<-hp3];exact decide_eq_decide.2 (by omega)
  obtain⟨ov,hov⟩:∃ ov:Bool,ov=(q && (p3 && p4)):=⟨_,rfl⟩;have hone:Hid ((∃ m',Xp s=some m')->ov=true):=iD (by
   rintro ⟨m',hm'⟩;have hcn:c ≠ 0:=fun h=>hc (by rw[h];rfl);have hs':=hs.out;have ht':=ht.out;subst ht';subst hs';have h:=Zh9 (k:=k) (x:=(Zs m)[k] ^^^ c) (by
    rw[List.getElem?_eq_getElem hk];intro h
    injection h with h
    exact hcn (Zn5 h)) hk hm'
   obtain⟨e1,e2,e3⟩:=h;rw[hov,<-hq,<-hp3,<-hp4,hh1,hh2,hb1',hb2',hn0,e3,decide_eq_true (show (3:Int)<=(k:Int) by omega),decide_eq_true (show (k:Int)<(((Zs m).length - 32:Nat):Int) by omega)];simp)
  replace hh1:=iD hh1;replace hh2:=iD hh2;replace hb1':=iD hb1';replace hb2':=iD hb2';replace hn0:=iD hn0;clear hb1l hb2l;go_cut [13] (fun v wx=>v=.bool ov/\Below w6.heap.size w6 wx)
  case first =>
   obtain⟨PS,hPS⟩:∃ PS:World->Prop,∀ y,PS y ↔ Below w6.heap.size w6 y:=⟨_,fun _=>Iff.rfl⟩;have hB0:Below w6.heap.size w6 w6.drew:=(lE _ _).drew;have s4:PS w6.drew:=(hPS _).2 hB0;haveI : Nonempty (Cls PS):=⟨⟨_,s4⟩⟩;replace hPS:=iD hPS;refine Z0t (fun w'=>∃ y:Cls PS,w'=y.1) (.two [0,1,2,4,5,6] 3 (.one [] 7 (.one [] 8 (.one [9,10,11,12] 13 (.tail [14,15,16])))) 7 (.one [] 3 (.one [] 8 (.one [9,10,11,12] 13 (.tail [14,15,16]))))) 17 [18,19] (by kernel_rfl) (by kernel_rfl) (fun _ d _ _ _ h=>by cases d <;> exact h) ⟨⟨_,s4⟩,rfl⟩ ?_;simp only[Vg,Ur,Z7,List.map_cons,List.map_nil,Zo,Zn];repeat (first | (refine Zc (Op.slice 57 (.tmp 57) none (some (.tmp 58)) none) rfl rfl (.slice (some ⟨w2.heap.size,0,none⟩) n0 cb) (fun w' _=>Zn7 w' rfl w2.heap.size t.length cb n0 rfl rfl hn0c) ?_;go_frame) | (refine Zc (Op.slice 9 (.tmp 61) none (some (.tmp 62)) none) rfl rfl (.string ⟨b2.toArray⟩) (fun w' _=>Xv w' rfl t b2 n0 rfl rfl hn0t htk.out) ?_;go_frame) | go_big_quiet_step (fail))
   refine lA ?_;refine⟨?o0,?o1⟩
   case' o0 =>
    intro K hK;go_simp;refine (hsm1.out _ hB0 ((hS6.out.stayB hB0).take n0)).mono ?_;rintro e y1 ⟨rfl,hb1⟩;have hB1:Below w6.heap.size w6 y1:=hB0.trans (hb1.mono hB0.size);refine hK _ _ ⟨⟨_,(hPS.out _).2 hB1⟩,rfl⟩ ?_;clear hK;refine lA ?_;intro K hK;refine Js _ rfl (.tmp 63) rfl b2 rfl ?_;intro y2 c2 hb2 hlt2 hc2 hr2;have hB2:Below w6.heap.size w6 y2:=hB1.trans (hb2.mono hB1.size);refine hK _ _ ⟨⟨_,(hPS.out _).2 hB2⟩,rfl⟩ ?_;clear hK;refine lA ?_;intro K hK;go_simp;refine (hsm2.out _ _ _ hB2 (hr2.weak (fun _ h _=>h)) hc2).mono ?_;rintro e yz ⟨rfl,hbz⟩;have hBz:Below w6.heap.size w6 yz:=hB2.trans (hbz.mono hB2.size);refine hK _ _ ⟨⟨_,(hPS.out _).2 hBz⟩,rfl⟩ ?_;clear hK
   case' o1 =>
    intro K hK;refine Js _ rfl (.tmp 63) rfl b2 rfl ?_;intro y4 c4 hb4 hlt4 hc4 hr4;have hB4:Below w6.heap.size w6 y4:=hB0.trans (hb4.mono hB0.size);refine hK _ _ ⟨⟨_,(hPS.out _).2 hB4⟩,rfl⟩ ?_;clear hK;refine lA ?_;intro K hK;go_simp;refine (hsm1.out _ hB4 ((hS6.out.stayB hB4).take n0)).mono ?_;rintro e y5 ⟨rfl,hb5⟩;have hB5:Below w6.heap.size w6 y5:=hB4.trans (hb5.mono hB4.size);have hrB5:=hr4.stayB hb5;refine hK _ _ ⟨⟨_,(hPS.out _).2 hB5⟩,rfl⟩ ?_;clear hK;refine lA ?_;intro K hK;go_simp;refine (hsm2.out _ _ _ hB5 (hrB5.weak (fun _ h _=>h)) hc4).mono ?_;rintro e yz ⟨rfl,hbz⟩;have hBz:Below w6.heap.size w6 yz:=hB5.trans (hbz.mono hB5.size);refine hK _ _ ⟨⟨_,(hPS.out _).2 hBz⟩,rfl⟩ ?_;clear hK
   all_goals
    cases q <;> cases p3 <;> cases p4
    all_goals
     subst hov;repeat (first | (refine Zc (.binOp .eql 59 (.tmp 60) (.tmp 65) 59) rfl rfl (.bool (h1 == h2)) (fun w' _=>Z6c w' rfl h1 h2 rfl rfl h1l h2l) ?_;rw[hq];go_frame) | go_big_quiet_step (fail))
     refine lA ?_;intro K hK;go_simp;refine hK _ _ ⟨⟨_,(hPS.out _).2 hBz⟩,rfl⟩ ?_;clear hK;repeat (first | go_big_quiet_step (fail))
     refine lA ?_
     change wpList _ _ _ _ _ yz
     go_wp2_with fail;go_meet;first | exact⟨rfl,hBz⟩ | exact⟨by rw[hp4n];rfl,hBz⟩
  case rest =>
   obtain⟨rfl,hbc⟩:=hcut;have hbc6:=hb6.out.trans (hbc.mono hb6.out.size);have hNc:=hN6.out.below hbc hN6.out.lt;have hal6:=iD (fun W (hb:Below wc.heap.size wc W)=>hal.out W (hbc6.trans (hb.mono hbc6.size)));have hsm:=iD (fun W=>Zn1 Xr Xr Z0 Z0 Z0 Z0 (fun _=>True) (fun _=>True) W Ze.nil Ze.nil Ze.nil Ze.nil Z2x Z2x Z2x Z2x);clear hsm1 hsm2 hbc hN6 hal hS6 hb6 hov;replace hbc6:=iD hbc6;rcases hNcase.out with ⟨he2,hm'⟩ | ⟨he2,hnl⟩
   ·have hot:=hone.out hm';rw[hot];have hne2:(er2 != 0)=false:=by rw[he2];rfl
    replace he2:=iD he2;have hal7:=iD (hal6.out wc (lE _ _));clear hal6 hNc hone hot;go_wp2_with fail;refine hal7.out.mono ?_;rintro e w8 ⟨rfl,hb78⟩;have hb8:=iD (hbc6.out.trans (hb78.mono hbc6.out.size));clear hal7 hbc6 hb78;go_wp2_with fail;go_returns;exact⟨rfl,hb8.out⟩
   ·have hne2:(er2 != 0)=true:=by simpa using he2
    replace he2:=iD he2;rw[hnl] at hNc;have z0:wc.cell? ⟨w5.heap.size,0,none⟩=some (.int .i64 0):=hNc.cell 0;have z1:wc.cell? ⟨w5.heap.size,1,none⟩=some (.int .i64 0):=hNc.cell 1;have z2:wc.cell? ⟨w5.heap.size,2,none⟩=some (.string ⟨#[]⟩):=hNc.cell 2;have z3:wc.cell? ⟨w5.heap.size,3,none⟩=some (.slice none 0 0):=hNc.cell 3;have z4:wc.cell? ⟨w5.heap.size,4,none⟩=some (.slice none 0 0):=hNc.cell 4;have z5:wc.cell? ⟨w5.heap.size,5,none⟩=some (.string ⟨#[]⟩):=hNc.cell 5;have z6:wc.cell? ⟨w5.heap.size,6,none⟩=some (.int .i64 0):=hNc.cell 6;clear hNc hnl hone;go_wp2_with fail;refine (hsm.out _).mono ?_;rintro e w7 ⟨qs,rfl,hb57,hqs⟩;obtain rfl:=hqs.2 (by first | rfl | trivial);have hal7:=iD (hal6.out w7 hb57);have hb7:=hbc6.out.trans (hb57.mono hbc6.out.size);clear hsm hb57 hqs hbc6 hal6 z0 z1 z2 z3 z4 z5 z6;replace hb7:=iD hb7;go_wp2_with fail;refine hal7.out.mono ?_;rintro e w8 ⟨rfl,hb78⟩;have hb8:=iD (hb7.out.trans (hb78.mono hb7.out.size));clear hal7 hb7 hb78;go_wp2_with fail;go_returns;exact⟨rfl,hb8.out⟩
end Go.Proofs.YtefjlobdifjogaaGreatDoor
