import Derived.Test.YtefjlobdifjogaaGreatDoorP18
open Bool renaming not_false → lP
open ByteArray renaming size → lM, ext → lN
open Go renaming wpQuiet_nil → lD
open Go.Proofs.Tryz renaming prog → lF
open Go.Result renaming andThen_ok → lR
open Go.RowKit.Below renaming refl → lI
open Go.Sem renaming run_bind → lO, run_pure → lQ
open Go.World renaming setRow → lL
open Int renaming toNat_of_nonneg → lK
open List renaming length_append → lA, map_cons → lB, map_nil → lC, length_cons → lE, length_nil → lG, isEmpty → lH, length_pos_iff → lJ, append_assoc → lS
namespace Go.Proofs.YtefjlobdifjogaaGreatDoor
section
set_option maxRecDepth 100000
set_option maxHeartbeats 16000000
open Go.Lib renaming hid → iD
open Go.Proofs.Tryz
open Go.RowKit
theorem may1{m:PMsg}(h:m.kind<1 ∨ 4<m.kind ∨ m.ses<0 ∨ m.code<0):Yc m=1:=by unfold Yc;rw[if_pos h]
theorem may11{m:PMsg}(h:¬(m.kind<1 ∨ 4<m.kind ∨ m.ses<0 ∨ m.code<0))(h2:Z6 m.name=false):Yc m=11:=by unfold Yc;rw[if_neg h,if_pos h2]
theorem may4{m:PMsg}(h:¬(m.kind<1 ∨ 4<m.kind ∨ m.ses<0 ∨ m.code<0))(h2:Z6 m.name=true)(h3:256<m.old.length ∨ 256<m.new.length):Yc m=4:=by unfold Yc;rw[if_neg h,if_neg (by simp[h2]),if_pos h3]
theorem may3{m:PMsg}(h:¬(m.kind<1 ∨ 4<m.kind ∨ m.ses<0 ∨ m.code<0))(h2:Z6 m.name=true)(h3:¬(256<m.old.length ∨ 256<m.new.length))(h4:1048576<m.pack.length):Yc m=3:=by unfold Yc;rw[if_neg h,if_neg (by simp[h2]),if_neg h3,if_pos h4]
def Z2s(m:PMsg):Prop:=(Vo m.kind=false/\m.old ≠ []) ∨ (Jp m.kind=false/\m.new ≠ []) ∨ (Jp m.kind=false/\m.pack ≠ []) ∨ (Kg m.kind=false/\m.code ≠ 0)
theorem may7{m:PMsg}(h:¬(m.kind<1 ∨ 4<m.kind ∨ m.ses<0 ∨ m.code<0))(h2:Z6 m.name=true)(h3:¬(256<m.old.length ∨ 256<m.new.length))(h4:¬ 1048576<m.pack.length)(h5:Z2s m):Yc m=7:=by unfold Yc;rw[if_neg h,if_neg (by simp[h2]),if_neg h3,if_neg h4];exact if_pos h5
theorem may0{m:PMsg}(h:¬(m.kind<1 ∨ 4<m.kind ∨ m.ses<0 ∨ m.code<0))(h2:Z6 m.name=true)(h3:¬(256<m.old.length ∨ 256<m.new.length))(h4:¬ 1048576<m.pack.length)(h5:¬ Z2s m):Yc m=0:=by unfold Yc;rw[if_neg h,if_neg (by simp[h2]),if_neg h3,if_neg h4];exact if_neg h5
def Zx(m:PMsg)(o n:Value):List Value:=[.int .i64 m.kind,.int .i64 m.ses,.string ⟨m.name.toArray⟩,o,n,.string ⟨m.pack.toArray⟩,.int .i64 m.code]
theorem Zag(m:PMsg)(o n:Value)(ok:Nat->Prop)(w:World)(hk:(Lit.int .i64 m.kind).wf=true)(ho:Ze w ok o m.old)(hn:Ze w ok n m.new)(hnl:m.name.length<=140737488355328) :
  Calls lF 46 #[.agg (Zx m o n).toArray] w fun e w'=>e=.returned (.int .i64 (Yc m))/\Below w.heap.size w w':=by
 obtain⟨OA,oc,rfl,_,_⟩:=ho;obtain⟨NA,nc,rfl,_,_⟩:=hn;generalize hW1:w.alloc (.cells #[.int .i64 m.kind,.int .i64 m.ses,.string ⟨m.name.toArray⟩,.slice OA m.old.length oc,.slice NA m.new.length nc,.string ⟨m.pack.toArray⟩,.int .i64 m.code] 25)=w1;have hX1:Blk w1 w.heap.size 25 (Zx m (.slice OA m.old.length oc) (.slice NA m.new.length nc)):=by rw[<-hW1];exact Blk.new_at (cs:=Zx m (.slice OA m.old.length oc) (.slice NA m.new.length nc)) rfl
 have hb1:Below w.heap.size w w1:=by rw[<-hW1];exact bL
 have c0:w1.cell? ⟨w.heap.size,0,none⟩=some (.int .i64 m.kind):=hX1.cell 0;have hfi:=iD (Zkz m.kind hk w1);obtain⟨mm,hmm⟩:∃ mm,mm=Yc m:=⟨_,rfl⟩;rw[<-hmm];replace hmm:=iD hmm;unfold Zx;replace hX1:=iD hX1;go_enter func46,ntmps46;go_wp2_with fail;refine hfi.out.mono ?_;rintro e w2 ⟨rfl,hb2⟩;have hX2:=hX1.out.below hb2 hX1.out.lt;have hb02:=hb1.trans (hb2.mono hb1.size);clear c0 hfi hX1 hW1 hb1 hb2;obtain⟨fv,hfv⟩:∃ fv,fv=Us m.kind:=⟨_,rfl⟩;have hfl:fv.length=4:=by rw[hfv];rfl
 have hfz:Hid ((lF.info? 198).map (·.size)=some fv.length):=iD (by rw[hfl];exact Zaf);have hfo:Hid (∀ v ∈ fv,v.oneCell'=true):=iD (by rw[hfv];simp[Us,Value.oneCell']);rw[<-hfv];obtain⟨ob,hob⟩:∃ ob,ob=Ut m.kind:=⟨_,rfl⟩;rw[<-hob];replace hob:=iD hob;replace hX2:=iD hX2;replace hb02:=iD hb02;replace hfv:=iD hfv;go_upto_region 2 with (first
  | (refine Zd rfl 198 (.tmp 3) (.tmp 9) rfl w2.heap.size fv rfl rfl 198 [.bool false,.bool false,.bool false,.bool false] (Blk.new_at (cs:=[.bool false,.bool false,.bool false,.bool false]) rfl) (by rw[hfl];rfl) hfz.out hfo.out ?_;go_frame)
  | fail)
 generalize hW3:lL _ w2.heap.size fv.toArray=w3;have hC3:Blk w3 w2.heap.size 198 fv:=by rw[<-hW3];exact (Blk.new_at (cs:=[.bool false,.bool false,.bool false,.bool false]) rfl).setRow_same fv
 have hb3:Below w2.heap.size w2 w3:=by rw[<-hW3];exact below_setRow bL (Nat.le_refl _) fv.toArray
 have hX3:=hX2.out.below hb3 hX2.out.lt;have hb03:=hb02.out.trans (hb3.mono hb02.out.size);clear hW3 hX2 hb02 hb3;have x1:w3.cell? ⟨w.heap.size,1,none⟩=some (.int .i64 m.ses):=hX3.cell 1;have x2:w3.cell? ⟨w.heap.size,2,none⟩=some (.string ⟨m.name.toArray⟩):=hX3.cell 2;have x6:w3.cell? ⟨w.heap.size,6,none⟩=some (.int .i64 m.code):=hX3.cell 6;have hnm:=iD (Vr m.name w3 hnl);unfold Z1 at hnm;replace hC3:=iD hC3;replace hX3:=iD hX3;replace hb03:=iD hb03;cases ob with
 | false =>
  have hm1:=iD (may1 (m:=m) (by have:=hob.out;simp only[Ut,eq_comm (a:=false),decide_eq_false_iff_not] at this;omega));go_wp2_with fail;go_returns;exact⟨by rw[hmm.out,hm1.out];rfl,hb03.out⟩
 | true =>
  have hkk:1<=m.kind/\m.kind<=4:=by have:=hob.out;simpa only[Ut,eq_comm (a:=true),decide_eq_true_eq] using this
  by_cases hs:m.ses<0
  ·have d1:decide (m.ses<0)=true:=decide_eq_true hs;have hm1:=iD (may1 (m:=m) (by omega));go_wp2_with fail;go_returns;exact⟨by rw[hmm.out,hm1.out];rfl,hb03.out⟩
  ·have d1:decide (m.ses<0)=false:=decide_eq_false hs;by_cases hc:m.code<0
   ·have d2:decide (m.code<0)=true:=decide_eq_true hc;have hm1:=iD (may1 (m:=m) (by omega));go_wp2_with fail;go_returns;exact⟨by rw[hmm.out,hm1.out];rfl,hb03.out⟩
   ·have d2:decide (m.code<0)=false:=decide_eq_false hc;have h1:=iD (show ¬(m.kind<1 ∨ 4<m.kind ∨ m.ses<0 ∨ m.code<0) by omega);clear hs hc hkk;go_wp2_with fail;refine hnm.out.mono ?_;rintro e w4 ⟨rfl,hw4⟩;rw[<-hw4];clear hw4 w4;obtain⟨lo,hlo⟩:∃ lo,lo=m.old.length:=⟨_,rfl⟩;obtain⟨ln,hln⟩:∃ ln,ln=m.new.length:=⟨_,rfl⟩;obtain⟨pl,hpc⟩:∃ pl,pl=m.pack:=⟨_,rfl⟩;have x3:w3.cell? ⟨w.heap.size,3,none⟩=some (.slice OA lo oc):=by rw[hlo];exact hX3.out.cell 3
    have x4:w3.cell? ⟨w.heap.size,4,none⟩=some (.slice NA ln nc):=by rw[hln];exact hX3.out.cell 4
    have x5:w3.cell? ⟨w.heap.size,5,none⟩=some (.string ⟨pl.toArray⟩):=by rw[hpc];exact hX3.out.cell 5
    obtain⟨lp,hlp⟩:∃ lp,lp=m.pack.length:=⟨_,rfl⟩;obtain⟨a0,h0⟩:∃ a0,a0=Vo m.kind:=⟨_,rfl⟩;obtain⟨a1,h1'⟩:∃ a1,a1=Jp m.kind:=⟨_,rfl⟩;obtain⟨a2,h2'⟩:∃ a2,a2=Kg m.kind:=⟨_,rfl⟩;have y0:w3.cell? ⟨w2.heap.size,0,none⟩=some (.bool a0):=by rw[hC3.out.cell 0,hfv.out,h0];rfl
    have y1:w3.cell? ⟨w2.heap.size,1,none⟩=some (.bool a1):=by rw[hC3.out.cell 1,hfv.out,h1'];rfl
    have y2:w3.cell? ⟨w2.heap.size,2,none⟩=some (.bool a1):=by rw[hC3.out.cell 2,hfv.out,h1'];rfl
    have y3:w3.cell? ⟨w2.heap.size,3,none⟩=some (.bool a2):=by rw[hC3.out.cell 3,hfv.out,h2'];rfl
    have hz:(⟨pl.toArray⟩:ByteArray).size=lp:=by rw[hpc,hlp];exact Jw m.pack
    have hz':pl.length=lp:=by rw[hpc,hlp]
    replace hlo:=iD hlo;replace hln:=iD hln;replace hlp:=iD hlp;replace hpc:=iD hpc;replace h0:=iD h0;replace h1':=iD h1';replace h2':=iD h2';cases hq:Z6 m.name with
    | false =>
     have hm1:=iD (may11 h1.out hq);go_wp2_with fail;go_returns;exact⟨by rw[hmm.out,hm1.out];rfl,hb03.out⟩
    | true =>
     replace hq:=iD hq;by_cases ho:256<m.old.length
     ·have d3:decide ((256:Int)<(lo:Int))=true:=decide_eq_true (by have:=hlo.out;omega);have hm1:=iD (may4 h1.out hq.out (.inl ho));go_wp2_with fail;go_returns;exact⟨by rw[hmm.out,hm1.out];rfl,hb03.out⟩
     ·have d3:decide ((256:Int)<(lo:Int))=false:=decide_eq_false (by have:=hlo.out;omega);by_cases hn:256<m.new.length
      ·have d4:decide ((256:Int)<(ln:Int))=true:=decide_eq_true (by have:=hln.out;omega);have hm1:=iD (may4 h1.out hq.out (.inr hn));go_wp2_with fail;go_returns;exact⟨by rw[hmm.out,hm1.out];rfl,hb03.out⟩
      ·have d4:decide ((256:Int)<(ln:Int))=false:=decide_eq_false (by have:=hln.out;omega);have h3:=iD (show ¬(256<m.old.length ∨ 256<m.new.length) by omega);clear ho hn;by_cases hp:1048576<m.pack.length
       ·have d5:decide ((1048576:Int)<(lp:Int))=true:=decide_eq_true (by have:=hlp.out;omega);have hm1:=iD (may3 h1.out hq.out h3.out hp);go_wp2_with fail;go_returns;exact⟨by rw[hmm.out,hm1.out];rfl,hb03.out⟩
       ·have d5:decide ((1048576:Int)<(lp:Int))=false:=decide_eq_false (by have:=hlp.out;omega);replace hp:=iD hp;have hW:=iD (fun h=>may7 h1.out hq.out h3.out hp.out h);have hR:=iD (fun h=>may0 h1.out hq.out h3.out hp.out h);go_upto_region 10 with fail;cases a0 with
        | true =>
         have k1:Hid (¬(Vo m.kind=false/\m.old ≠ [])):=iD (fun k=>by rw[<-h0.out] at k;exact absurd k.1 (by simp));cases a1 with
         | true =>
          have k2:Hid (¬(Jp m.kind=false/\m.new ≠ [])):=iD (fun k=>by rw[<-h1'.out] at k;exact absurd k.1 (by simp));have k3:Hid (¬(Jp m.kind=false/\m.pack ≠ [])):=iD (fun k=>by rw[<-h1'.out] at k;exact absurd k.1 (by simp));cases a2 with
          | true =>
           have k4:Hid (¬(Kg m.kind=false/\m.code ≠ 0)):=iD (fun k=>by rw[<-h2'.out] at k;exact absurd k.1 (by simp));have hm1:=iD (hR.out (fun k=>k.elim k1.out (fun k=>k.elim k2.out (fun k=>k.elim k3.out k4.out))));go_wp2_with fail;go_returns;exact⟨by rw[hmm.out,hm1.out];rfl,hb03.out⟩
          | false =>
           by_cases hc:m.code=0
           ·have e7:(m.code != 0)=false:=by rw[hc];rfl
            have k4:Hid (¬(Kg m.kind=false/\m.code ≠ 0)):=iD (fun k=>k.2 hc);clear hc;have hm1:=iD (hR.out (fun k=>k.elim k1.out (fun k=>k.elim k2.out (fun k=>k.elim k3.out k4.out))));go_wp2_with fail;go_returns;exact⟨by rw[hmm.out,hm1.out];rfl,hb03.out⟩
           ·have e7:(m.code != 0)=true:=by simpa using hc
            have hm1:=iD (hW.out (.inr (.inr (.inr ⟨h2'.out.symm,hc⟩))));go_wp2_with fail;go_returns;exact⟨by rw[hmm.out,hm1.out];rfl,hb03.out⟩
         | false =>
          by_cases hn:m.new=[]
          ·have d7:decide (0<ln)=false:=by rw[hln.out,hn];rfl
           have k2:Hid (¬(Jp m.kind=false/\m.new ≠ [])):=iD (fun k=>k.2 hn);clear hn;by_cases hpk:m.pack=[]
           ·have e6:lH pl=true:=by rw[hpc.out,hpk];rfl
            have k3:Hid (¬(Jp m.kind=false/\m.pack ≠ [])):=iD (fun k=>k.2 hpk);clear hpk;cases a2 with
            | true =>
             have k4:Hid (¬(Kg m.kind=false/\m.code ≠ 0)):=iD (fun k=>by rw[<-h2'.out] at k;exact absurd k.1 (by simp));have hm1:=iD (hR.out (fun k=>k.elim k1.out (fun k=>k.elim k2.out (fun k=>k.elim k3.out k4.out))));go_wp2_with fail;go_returns;exact⟨by rw[hmm.out,hm1.out];rfl,hb03.out⟩
            | false =>
             by_cases hc:m.code=0
             ·have e7:(m.code != 0)=false:=by rw[hc];rfl
              have k4:Hid (¬(Kg m.kind=false/\m.code ≠ 0)):=iD (fun k=>k.2 hc);clear hc;have hm1:=iD (hR.out (fun k=>k.elim k1.out (fun k=>k.elim k2.out (fun k=>k.elim k3.out k4.out))));go_wp2_with fail;go_returns;exact⟨by rw[hmm.out,hm1.out];rfl,hb03.out⟩
             ·have e7:(m.code != 0)=true:=by simpa using hc
              have hm1:=iD (hW.out (.inr (.inr (.inr ⟨h2'.out.symm,hc⟩))));go_wp2_with fail;go_returns;exact⟨by rw[hmm.out,hm1.out];rfl,hb03.out⟩
           ·have e6:lH pl=false:=by rw[hpc.out];simpa using hpk
            have hm1:=iD (hW.out (.inr (.inr (.inl ⟨h1'.out.symm,hpk⟩))));go_wp2_with fail;go_returns;exact⟨by rw[hmm.out,hm1.out];rfl,hb03.out⟩
          ·have d7:decide (0<ln)=true:=decide_eq_true (by rw[hln.out];exact lJ.2 hn);have hm1:=iD (hW.out (.inr (.inl ⟨h1'.out.symm,hn⟩)));go_wp2_with fail;go_returns;exact⟨by rw[hmm.out,hm1.out];rfl,hb03.out⟩
        | false =>
         by_cases ho:m.old=[]
         ·have d6:decide (0<lo)=false:=by rw[hlo.out,ho];rfl
          have k1:Hid (¬(Vo m.kind=false/\m.old ≠ [])):=iD (fun k=>k.2 ho);clear ho;cases a1 with
          | true =>
           have k2:Hid (¬(Jp m.kind=false/\m.new ≠ [])):=iD (fun k=>by rw[<-h1'.out] at k;exact absurd k.1 (by simp));have k3:Hid (¬(Jp m.kind=false/\m.pack ≠ [])):=iD (fun k=>by rw[<-h1'.out] at k;exact absurd k.1 (by simp));cases a2 with
           | true =>
            have k4:Hid (¬(Kg m.kind=false/\m.code ≠ 0)):=iD (fun k=>by rw[<-h2'.out] at k;exact absurd k.1 (by simp));have hm1:=iD (hR.out (fun k=>k.elim k1.out (fun k=>k.elim k2.out (fun k=>k.elim k3.out k4.out))));go_wp2_with fail;go_returns;exact⟨by rw[hmm.out,hm1.out];rfl,hb03.out⟩
           | false =>
            by_cases hc:m.code=0
            ·have e7:(m.code != 0)=false:=by rw[hc];rfl
             have k4:Hid (¬(Kg m.kind=false/\m.code ≠ 0)):=iD (fun k=>k.2 hc);clear hc;have hm1:=iD (hR.out (fun k=>k.elim k1.out (fun k=>k.elim k2.out (fun k=>k.elim k3.out k4.out))));go_wp2_with fail;go_returns;exact⟨by rw[hmm.out,hm1.out];rfl,hb03.out⟩
            ·have e7:(m.code != 0)=true:=by simpa using hc
             have hm1:=iD (hW.out (.inr (.inr (.inr ⟨h2'.out.symm,hc⟩))));go_wp2_with fail;go_returns;exact⟨by rw[hmm.out,hm1.out];rfl,hb03.out⟩
          | false =>
           by_cases hn:m.new=[]
           ·have d7:decide (0<ln)=false:=by rw[hln.out,hn];rfl
            have k2:Hid (¬(Jp m.kind=false/\m.new ≠ [])):=iD (fun k=>k.2 hn);clear hn;by_cases hpk:m.pack=[]
            ·have e6:lH pl=true:=by rw[hpc.out,hpk];rfl
             have k3:Hid (¬(Jp m.kind=false/\m.pack ≠ [])):=iD (fun k=>k.2 hpk);clear hpk;cases a2 with
             | true =>
              have k4:Hid (¬(Kg m.kind=false/\m.code ≠ 0)):=iD (fun k=>by rw[<-h2'.out] at k;exact absurd k.1 (by simp));have hm1:=iD (hR.out (fun k=>k.elim k1.out (fun k=>k.elim k2.out (fun k=>k.elim k3.out k4.out))));go_wp2_with fail;go_returns;exact⟨by rw[hmm.out,hm1.out];rfl,hb03.out⟩
             | false =>
              by_cases hc:m.code=0
              ·have e7:(m.code != 0)=false:=by rw[hc];rfl
               have k4:Hid (¬(Kg m.kind=false/\m.code ≠ 0)):=iD (fun k=>k.2 hc);clear hc;have hm1:=iD (hR.out (fun k=>k.elim k1.out (fun k=>k.elim k2.out (fun k=>k.elim k3.out k4.out))));go_wp2_with fail;go_returns;exact⟨by rw[hmm.out,hm1.out];rfl,hb03.out⟩
              ·have e7:(m.code != 0)=true:=by simpa using hc
               have hm1:=iD (hW.out (.inr (.inr (.inr ⟨h2'.out.symm,hc⟩))));go_wp2_with fail;go_returns;exact⟨by rw[hmm.out,hm1.out];rfl,hb03.out⟩
            ·have e6:lH pl=false:=by rw[hpc.out];simpa using hpk
             have hm1:=iD (hW.out (.inr (.inr (.inl ⟨h1'.out.symm,hpk⟩))));go_wp2_with fail;go_returns;exact⟨by rw[hmm.out,hm1.out];rfl,hb03.out⟩
           ·have d7:decide (0<ln)=true:=decide_eq_true (by rw[hln.out];exact lJ.2 hn);have hm1:=iD (hW.out (.inr (.inl ⟨h1'.out.symm,hn⟩)));go_wp2_with fail;go_returns;exact⟨by rw[hmm.out,hm1.out];rfl,hb03.out⟩
         ·have d6:decide (0<lo)=true:=decide_eq_true (by rw[hlo.out];exact lJ.2 ho);have hm1:=iD (hW.out (.inl ⟨h0.out.symm,ho⟩));go_wp2_with fail;go_returns;exact⟨by rw[hmm.out,hm1.out];rfl,hb03.out⟩
end
section
set_option maxRecDepth 100000
set_option maxHeartbeats 16000000
open Go.Lib renaming hid → iD
open Go.Proofs.Tryz
open Go.RowKit
theorem Uu{P:Program}{ops:Array Oper}{rest:List Oper}{o:Oper}{a:Act}{C:World->Prop}{Q:Act->Prop}(t yt:TypeId)(x y:Operand)(ho:o.op=.binOp .add t x y yt)(hgd:o.guard=none)
  (l r:List UInt8) (hx:a.eval x=.string ⟨l.toArray⟩) (hy:a.eval y=.string ⟨r.toArray⟩) (hl:l.length+r.length<=9223372036854775807)
  (h:wpQuiet P ops C Q rest (a.put o.dst (.string ⟨(l++r).toArray⟩))):wpQuiet P ops C Q (o :: rest) a:=by
 refine Zc _ ho hgd _ (fun w _=>?_) h;have h1:(⟨l.toArray⟩:ByteArray).size+(⟨r.toArray⟩:ByteArray).size<=9223372036854775807:=by simpa[lM] using hl
 have h2:(⟨l.toArray⟩:ByteArray)++(⟨r.toArray⟩:ByteArray)=⟨(l++r).toArray⟩:=by
  apply lN;simp[ByteArray.data_append]
 simp only[execOp,ho,hx,hy,lO,eqGuard,lP,if_true,lQ,lR,binOp_string_add,run_string_add_sum w _ _ h1,h2]
theorem Zaj{P:Program}{ops:Array Oper}{rest:List Oper}{o:Oper}{a:Act}{w:World}{Q:Exit->Act->World->Prop}(t yt:TypeId)(x y:Operand)(ho:o.op=.binOp .add t x y yt)(hgd:o.guard=none)
  (l r:List UInt8) (hx:a.eval x=.string ⟨l.toArray⟩) (hy:a.eval y=.string ⟨r.toArray⟩) (hl:l.length+r.length<=9223372036854775807)
  (h:wpList P ops Q rest (a.put o.dst (.string ⟨(l++r).toArray⟩)) w):wpList P ops Q (o :: rest) a w:=by
 refine Y2 _ ho hgd _ ?_ h;have h1:(⟨l.toArray⟩:ByteArray).size+(⟨r.toArray⟩:ByteArray).size<=9223372036854775807:=by simpa[lM] using hl
 have h2:(⟨l.toArray⟩:ByteArray)++(⟨r.toArray⟩:ByteArray)=⟨(l++r).toArray⟩:=by
  apply lN;simp[ByteArray.data_append]
 simp only[execOp,ho,hx,hy,lO,eqGuard,lP,if_true,lQ,lR,binOp_string_add,run_string_add_sum w _ _ h1,h2]
theorem Xf(m:PMsg)(o n:Value):(lF.info? 25).map (·.size)=some (Zx m o n).length:=by
 show _=some 7;kernel_rfl
set_option linter.unusedSimpArgs false in
theorem Z5b(m:PMsg)(o n:Value)(ok:Nat->Prop)(w:World)(hk:(Lit.int .i64 m.kind).wf=true)(ho:Ze w ok o m.old)(hn:Ze w ok n m.new)(hnl:m.name.length<=140737488355328)(hf:Yc m=0->MFit m)(hK:Zm w) :
  Calls lF 12 #[.agg (Zx m o n).toArray] w fun e w'=>e=.returned (if Yc m=0 then .tuple #[.string ⟨(Zs m).toArray⟩,.int .i64 0] else .tuple #[.string ⟨#[]⟩,.int .i64 (Yc m)])/\Below w.heap.size w w':=by
 obtain⟨mc,hmc⟩:∃ mc,mc=Zx m o n:=⟨_,rfl⟩;have hms:Hid ((lF.info? 25).map (·.size)=some mc.length):=iD (by rw[hmc];exact Xf m o n);generalize hW1:w.alloc (.cells mc.toArray 25)=w1;have hX1:Blk w1 w.heap.size 25 mc:=by rw[<-hW1];exact Blk.new_at rfl
 have hb1:Below w.heap.size w w1:=by rw[<-hW1];exact bL
 have hmy:=iD (Zag m o n ok w1 hk (ho.stay (fun b hb hlt=>hb1.block b hlt) (fun b hb _=>hb)) (hn.stay (fun b hb hlt=>hb1.block b hlt) (fun b hb _=>hb)) hnl);rw[<-hmc] at hmy ⊢;replace hX1:=iD hX1;replace hmc:=iD hmc;obtain⟨mm,hmm⟩:∃ mm,mm=Yc m:=⟨_,rfl⟩;rw[<-hmm] at hmy hf ⊢;replace hmm:=iD hmm;go_enter func12,ntmps12;go_wp2_with (first
  | (refine Zy rfl 25 (.tmp 1) rfl w.heap.size rfl 25 mc hX1.out _ underlying25 rfl hms.out ?_;go_frame)
  | fail)
 refine hmy.out.mono ?_;rintro e w2 ⟨rfl,hb2⟩;have hb02:=hb1.trans (hb2.mono hb1.size);have hX2:=hX1.out.below hb2 hX1.out.lt;clear hmy hX1 hW1 hb1 hb2;by_cases hz:mm=0
 ·subst hz;have hfm:=hf rfl;obtain⟨k0,k1,s0,c0,nm0,o1,n1,p1⟩:=Z1k hmm.out.symm;have hs9:=hfm.ses;have hc9:=hfm.code;have hk9:=hfm.kind;have hp9:(128:Int) ^ 9=9223372036854775808:=by decide
  rw[hp9] at hs9 hc9 hk9;obtain⟨kn,hkn⟩:∃ kn,kn=m.kind.toNat:=⟨_,rfl⟩;obtain⟨sn,hsn⟩:∃ sn,sn=m.ses.toNat:=⟨_,rfl⟩;obtain⟨cn,hcn⟩:∃ cn,cn=m.code.toNat:=⟨_,rfl⟩;have q1:=iD (fun W=>Z0u kn W (by omega));have q2:=iD (fun W=>Z0u sn W (by omega));have q3:=iD (fun W=>Z1t m.name W (by have:=Um nm0;omega));have q4:=iD (fun W (hb:Below w.heap.size w W)=>Zae m.old o ok W (ho.stay (fun b _ hlt=>hb.block b hlt) (fun b hb _=>hb)) hfm.old (by omega));have q5:=iD (fun W (hb:Below w.heap.size w W)=>Zae m.new n ok W (hn.stay (fun b _ hlt=>hb.block b hlt) (fun b hb _=>hb)) hfm.new (by omega));have q6:=iD (fun W=>Z0u m.pack.length W (by omega));have q7:=iD (fun W=>Z0u cn W (by omega));have hz':(⟨m.pack.toArray⟩:ByteArray).size=m.pack.length:=Jw m.pack;unfold Z1 G1 at q3;have p9:(128:Nat) ^ 9=9223372036854775808:=by decide
  have l1:(Z3 kn).length<=10:=Jr (by rw[p9];omega);have l2:(Z3 sn).length<=10:=Jr (by rw[p9];omega);have l3:(Zr m.name).length<=50:=by
   have:=Um nm0;have:=Jr (n:=m.name.length) (by rw[p9];omega);unfold Zr;rw[lA];omega
  have l4:(Ks m.old).length<=10000:=by
   have:=Jr (n:=m.old.length) (by rw[p9];omega);unfold Ks;rw[lA,Qu hfm.old];omega
  have l5:(Ks m.new).length<=10000:=by
   have:=Jr (n:=m.new.length) (by rw[p9];omega);unfold Ks;rw[lA,Qu hfm.new];omega
  have l6:(Z3 m.pack.length).length<=10:=Jr (by rw[p9];omega);have l7:(Z3 cn).length<=10:=Jr (by rw[p9];omega);have hall:Kj++(Z3 kn++(Z3 sn++(Zr m.name++(Ks m.old++(Ks m.new++(Z3 m.pack.length++(m.pack++Z3 cn)))))))=Jg m:=by
   unfold Jg K9;rw[hkn,hsn,hcn];simp only[Zr,lS]
  obtain⟨a1,ha1⟩:∃ a1,a1=Z3 kn:=⟨_,rfl⟩;obtain⟨a2,ha2⟩:∃ a2,a2=Z3 sn:=⟨_,rfl⟩;obtain⟨a3,ha3⟩:∃ a3,a3=Zr m.name:=⟨_,rfl⟩;obtain⟨a4,ha4⟩:∃ a4,a4=Ks m.old:=⟨_,rfl⟩;obtain⟨a5,ha5⟩:∃ a5,a5=Ks m.new:=⟨_,rfl⟩;obtain⟨a6,ha6⟩:∃ a6,a6=Z3 m.pack.length:=⟨_,rfl⟩;obtain⟨a7,ha7⟩:∃ a7,a7=Z3 cn:=⟨_,rfl⟩;rw[<-ha1,<-ha2,<-ha3,<-ha4,<-ha5,<-ha6,<-ha7] at hall;rw[<-ha1] at q1 l1;rw[<-ha2] at q2 l2;rw[<-ha3] at q3 l3;rw[<-ha4] at q4 l4;rw[<-ha5] at q5 l5;rw[<-ha6] at q6 l6;rw[<-ha7] at q7 l7;clear ha1 ha2 ha3 ha4 ha5 ha6 ha7;obtain⟨pk,hpk⟩:∃ pk,pk=m.pack:=⟨_,rfl⟩;rw[<-hpk] at hall hz' q6 p1;have hhd:Kj=[82,77,49]:=rfl;replace hall:=iD hall;obtain⟨PS,hPS⟩:∃ PS:World->Prop,∀ y,PS y ↔ Below w2.heap.size w2 y:=⟨_,fun _=>Iff.rfl⟩;have hx:∀ (y:Cls PS) (j:Nat),y.1.cell? ⟨w.heap.size,j,none⟩=(Zx m o n)[j]?:=fun y j=>by rw[<-hmc.out];exact (hX2.below ((hPS _).1 y.2) hX2.lt).cell j
  have x0:∀ y:Cls PS,y.1.cell? ⟨w.heap.size,0,none⟩=some (.int .i64 (kn:Int)):=fun y=>by rw[hx y 0,hkn,lK (by omega)];rfl
  have x1:∀ y:Cls PS,y.1.cell? ⟨w.heap.size,1,none⟩=some (.int .i64 (sn:Int)):=fun y=>by rw[hx y 1,hsn,lK (by omega)];rfl
  have x2:∀ y:Cls PS,y.1.cell? ⟨w.heap.size,2,none⟩=some (.string ⟨m.name.toArray⟩):=fun y=>hx y 2;have x3:∀ y:Cls PS,y.1.cell? ⟨w.heap.size,3,none⟩=some o:=fun y=>hx y 3;have x4:∀ y:Cls PS,y.1.cell? ⟨w.heap.size,4,none⟩=some n:=fun y=>hx y 4;have x5:∀ y:Cls PS,y.1.cell? ⟨w.heap.size,5,none⟩=some (.string ⟨pk.toArray⟩):=fun y=>by rw[hpk];exact hx y 5
  have x6:∀ y:Cls PS,y.1.cell? ⟨w.heap.size,6,none⟩=some (.int .i64 (cn:Int)):=fun y=>by rw[hx y 6,hcn,lK (by omega)];rfl
  have s4:PS w2.drew:=(hPS _).2 (lI _ _).drew;haveI : Nonempty (Cls PS):=⟨⟨_,s4⟩⟩;clear hx hX2 hf hfm hs9 hc9 hk9;replace hPS:=iD hPS;replace hpk:=iD hpk;replace hkn:=iD hkn;clear hhd;replace hsn:=iD hsn;replace hcn:=iD hcn;replace hb02:=iD hb02;go_upto_region 4 with fail;refine Zl0 (fun w'=>∃ y:Cls PS,w'=y.1) [([0,1,4,5,8,9,13,14,17,18,21,22,23,26,27,29,30],2),([3],6),([7],10),([11,12],15),([16],19),([20],24),([25,28],31)] [32] 33 [] (by kernel_rfl) (by kernel_rfl) (fun _ d _ _ _ h=>by cases d <;> exact h) ⟨⟨_,s4⟩,rfl⟩ ?_;rw[Qq];simp only[Z7,lB,lC,Zo,Zn];repeat (first | go_big_quiet_step (fail))
  refine lD ?_;intro K hK;go_simp;have hb3:=(lI w2.heap.size w2).drew;refine (q1.out _).mono ?_;rintro e w3 ⟨rfl,hb3'⟩;replace hb3:=hb3.trans hb3';clear hb3';refine hK _ _ _ (fun _ h=>h) ⟨⟨_,(hPS.out _).2 hb3⟩,rfl⟩ ?_;clear hK;rw[Qq];simp only[Z7,lB,lC,Zo,Zn];refine Uu 9 9 (.const (.string ⟨#[82,77,49]⟩)) (.tmp 14) rfl rfl ([82,77,49]) (a1) rfl rfl (by simp only[lA,lE,lG];omega) ?_;go_frame;refine lD ?_;intro K hK;go_simp;refine (q2.out _).mono ?_;rintro e w4 ⟨rfl,hb4'⟩;have hb4:=hb3.trans (hb4'.mono hb3.size);clear hb4';refine hK _ _ _ (fun _ h=>h) ⟨⟨_,(hPS.out _).2 hb4⟩,rfl⟩ ?_;clear hK;rw[Qq];simp only[Z7,lB,lC,Zo,Zn];refine Uu 9 9 (.tmp 15) (.tmp 18) rfl rfl (82 :: 77 :: 49 :: (a1)) (a2) rfl rfl (by simp only[lA,lE,lG];omega) ?_;go_frame;refine lD ?_;intro K hK;go_simp;refine (q3.out _).mono ?_;rintro e w5 ⟨V5,rfl,hr5,hb5'⟩;have hb5:=hb4.trans (hb5'.mono hb4.size);clear hb5';obtain⟨TA,tc,rfl,_,_⟩:=Za hr5;have hR5:=K1 hr5;refine hK (fun y=>Below w5.heap.size w5 y) _ _ (fun y hy=>⟨⟨y,(hPS.out _).2 (hb5.trans (hy.mono hb5.size))⟩,rfl⟩) (lI _ _) ?_;clear hK;rw[Qq];simp only[Z7,lB,lC,Zo,Zn];refine Gu 57 9 (.tmp 22) rfl rfl 5 underlying57 underlying5 underlying9 TA a3 tc rfl (fun y hy=>hR5.stayB hy) ?_;go_frame;refine Uu 9 9 (.tmp 19) (.tmp 23) rfl rfl (82 :: 77 :: 49 :: (a1++a2)) (a3) rfl rfl (by simp only[lA,lE,lG];omega) ?_;go_frame;refine lD ?_;intro K hK;go_simp;refine (q4.out _ (hb02.out.trans (hb5.mono hb02.out.size))).mono ?_;rintro e w6 ⟨rfl,hb6'⟩;have hb6:=hb5.trans (hb6'.mono hb5.size);refine hK _ _ _ (fun _ h=>h) hb6' ?_;clear hK;rw[Qq];simp only[Z7,lB,lC,Zo,Zn];refine Uu 9 9 (.tmp 24) (.tmp 27) rfl rfl (82 :: 77 :: 49 :: (a1++(a2++a3))) (a4) rfl rfl (by simp only[lA,lE,lG];omega) ?_;go_frame;refine lD ?_;intro K hK;go_simp;refine (q5.out _ (hb02.out.trans (hb6.mono hb02.out.size))).mono ?_;rintro e w7 ⟨rfl,hb7'⟩;have hb7:=hb6.trans (hb7'.mono hb6.size);have hb57:=hb6'.trans (hb7'.mono hb6'.size);refine hK _ _ _ (fun _ h=>h) hb57 ?_;clear hK;rw[Qq];simp only[Z7,lB,lC,Zo,Zn];refine Uu 9 9 (.tmp 28) (.tmp 31) rfl rfl (82 :: 77 :: 49 :: (a1++(a2++(a3++a4)))) (a5) rfl rfl (by simp only[lA,lE,lG];omega) ?_;go_frame;refine lD ?_;intro K hK;go_simp;refine (q6.out _).mono ?_;rintro e w8 ⟨rfl,hb8'⟩;have hb8:=hb7.trans (hb8'.mono hb7.size);have hb58:=hb57.trans (hb8'.mono hb57.size);refine hK _ _ _ (fun _ h=>h) hb58 ?_;clear hK;rw[Qq];simp only[Z7,lB,lC,Zo,Zn];refine Uu 9 9 (.tmp 32) (.tmp 36) rfl rfl (82 :: 77 :: 49 :: (a1++(a2++(a3++(a4++a5))))) (a6) rfl rfl (by simp only[lA,lE,lG];omega) ?_;go_frame;refine Uu 9 9 (.tmp 37) (.tmp 39) rfl rfl ((82 :: 77 :: 49 :: (a1++(a2++(a3++(a4++a5)))))++a6) (pk) rfl rfl (by simp only[lA,lE,lG];omega) ?_;go_frame;refine lD ?_;intro K hK;go_simp;refine (q7.out _).mono ?_;rintro e w9 ⟨rfl,hb9'⟩;have hb9:=hb8.trans (hb9'.mono hb8.size);have hb59:=hb58.trans (hb9'.mono hb58.size);refine hK _ _ _ (fun _ h=>h) hb59 ?_;clear hK;rw[Qq];simp only[Z7,lB,lC,Zo,Zn];refine Uu 9 9 (.tmp 40) (.tmp 43) rfl rfl (82 :: 77 :: 49 :: (a1++(a2++(a3++(a4++(a5++(a6++pk))))))) (a7) rfl rfl (by simp only[lA,lE,lG];omega) ?_;go_frame;refine lD ?_;refine Y2 (.assign (.tmp 44)) rfl rfl (.string ⟨((82 :: 77 :: 49 :: (a1++(a2++(a3++(a4++(a5++(a6++pk)))))))++a7).toArray⟩) rfl ?_;go_frame;refine wpList_nil ?_;go_upto_region 5 with fail;obtain⟨ws,hws⟩:∃ ws,ws=Jg m:=⟨_,rfl⟩;have e1:82 :: 77 :: 49 :: (a1++(a2++(a3++(a4++(a5++(a6++(pk++a7)))))))=ws:=by rw[hws,<-hall.out];rfl
  have hwl:ws.length<=1100000:=by
   rw[<-e1];simp only[lE,lA];omega
  have e2:(82 :: 77 :: 49 :: (a1++(a2++(a3++(a4++(a5++(a6++pk)))))))++a7=ws:=by rw[<-e1];simp only[List.cons_append,lS]
  rw[e2];clear e2;have hb09:=hb02.out.trans (hb9.mono hb02.out.size);have hK9:=keys_below hK hb09;have hsu:=iD (fun A c W hR hc hK=>Ql ws A c W hR hc (by omega) hK);obtain⟨ds,hds⟩:∃ ds,ds=Y6 ws:=⟨_,rfl⟩;have hdl:ds.length=32:=by rw[hds];exact J2 _
  rw[<-hds] at hsu;have hdz:Hid ((lF.info? 59).map (·.size)=some (ds.map B).length):=iD (Zg hdl);replace hws:=iD hws;replace hds:=iD hds;clear e1 hall q1 q2 q3 q4 q5 q6 q7 l1 l2 l3 l4 l5 l6 l7 x0 x1 x2 x3 x4 x5 x6 hr5 hR5 hb3 hb4 hb5 hb6 hb6' hb7 hb7' hb57 hb8 hb8' hb58 hb9 hb9' hb59 hPS s4 hz' this PS;replace hb09:=iD hb09;replace hK9:=iD hK9;go_wp2_with (first
   | (refine Z0s rfl (.tmp 45) rfl ws rfl ?_;intro w10 c10 hb10 hsz10 hc10 hR10;replace hR10:=iD hR10;replace hb10:=iD hb10;go_frame)
   | fail)
  have hb010:=hb09.out.trans (hb10.out.mono hb09.out.size);refine (hsu.out _ _ w10 (hR10.out.weak (fun b hlt _=>hlt)) hc10 (keys_below hK hb010)).mono ?_;rintro e w11 ⟨rfl,hb11⟩;have hb011:=hb010.trans (hb11.mono hb010.size);clear hsu hR10 hb10 hb010 hb11 hb09 hK9;replace hb011:=iD hb011;go_upto_region 6 with (first
   | (refine Zd rfl 59 (.tmp 6) (.tmp 47) rfl w11.heap.size (ds.map B) rfl rfl 59 Z2 (Blk.new_at rfl) (by simp[Z2,hdl]) hdz.out (Y5 _) ?_;go_frame)
   | fail)
  generalize hW12:lL _ w11.heap.size (ds.map B).toArray=w12;have hD12:Blk w12 w11.heap.size 59 (ds.map B):=by rw[<-hW12];exact (Blk.new_at (cs:=Z2) rfl).setRow_same (ds.map B)
  have hb12:Below w11.heap.size w11 w12:=by rw[<-hW12];exact below_setRow bL (Nat.le_refl _) (ds.map B).toArray
  have hb012:=hb011.out.trans (hb12.mono hb011.out.size);have hsl:(Instr.sliceAt 59 (.pointer (some ⟨w11.heap.size,0,none⟩)) none none none).run lF w12=.ok (.slice (some ⟨w11.heap.size,0,none⟩) 32 32) w12:=by kernel_rfl
  have hDR:Rd w12 (fun _=>True) (some ⟨w11.heap.size,0,none⟩) (ds.map B):=Rd.of_blk (r:=[]) hD12 (by simp) trivial;clear hW12 hb12 hD12 hb011;refine wp_region_lit ?_;refine Y2 (.move (.tmp 5)) rfl rfl (.string ⟨ws.toArray⟩) rfl ?_;go_frame;refine J5 rfl _ (Zad 59 (.tmp 6) rfl _ _ rfl hsl) ?_;go_frame;refine Qf rfl 57 9 (.tmp 49) rfl 5 underlying57 underlying5 underlying9 (some ⟨w11.heap.size,0,none⟩) ds 32 (by rw[hdl];rfl) hDR ?_;go_frame;refine Zaj 9 9 (.tmp 48) (.tmp 50) rfl rfl ws ds rfl rfl (by omega) ?_;go_frame;refine Y2 (.assign (.tmp 51)) rfl rfl (.string ⟨(ws++ds).toArray⟩) rfl ?_;go_frame;clear hsl hDR;go_wp2_with fail;go_returns;have hfin:Zs m=ws++ds:=by rw[hds.out,hws.out];rfl
  exact⟨by rw[hfin];rfl,hb012⟩
 ·have d1:(mm != 0)=true:=by simpa using hz
  go_wp2_with fail;go_returns;exact⟨rfl,hb02⟩
end
section
set_option maxRecDepth 100000
set_option maxHeartbeats 2000000
open Go.Lib renaming hid → iD
open Go.Proofs.Tryz
open Go.RowKit
def K0(r:Nat)(ses:Int)(name say:Str)(kind:Int)(take fresh:Value)(ended:Bool)(e:Int):List Value:=[.pointer (some ⟨r,0,none⟩),.int .i64 ses,.string ⟨name.toArray⟩,.string ⟨say.toArray⟩,.int .i64 kind,take,fresh,.bool ended,.int .i64 e]
theorem Z5c(cb r:Nat)(ses:Int)(name say:Str)(kind:Int)(take fresh:Value)(ended:Bool)(e0:Int)(w:World)(hC:Blk w cb 34 (K0 r ses name say kind take fresh ended e0)) :
  Calls lF 50 #[.pointer (some ⟨cb,0,none⟩)] w fun e w'=>e=.returned (.bool true)/\w'=w:=by
 have c0:w.cell? ⟨cb,0,none⟩=some (.pointer (some ⟨r,0,none⟩)):=hC.cell 0;clear hC;go_enter func50,ntmps50;go_wp2_with fail;go_returns;exact⟨rfl,rfl⟩
theorem Zal(cb r:Nat)(ses:Int)(name say:Str)(kind:Int)(take fresh:Value)(ended:Bool)(e0:Int)(w:World)(hC:Blk w cb 34 (K0 r ses name say kind take fresh ended e0)) :
  Calls lF 14 #[.pointer (some ⟨cb,0,none⟩)] w fun e w'=>e=.returned (.string ⟨say.toArray⟩)/\w'=w:=by
 have hm:=iD (Z5c cb r ses name say kind take fresh ended e0 w hC);have c3:w.cell? ⟨cb,3,none⟩=some (.string ⟨say.toArray⟩):=hC.cell 3;clear hC;go_enter func14,ntmps14;go_wp2_with fail;refine hm.out.mono ?_;rintro e w1 ⟨rfl,hw1⟩;rw[hw1];clear hw1 w1;go_wp2_with fail;go_returns;exact⟨rfl,rfl⟩
theorem Z5d(cb r:Nat)(ses:Int)(name say:Str)(kind:Int)(take fresh:Value)(ended:Bool)(e0:Int)(w:World)(hC:Blk w cb 34 (K0 r ses name say kind take fresh ended e0)) :
  Calls lF 13 #[.pointer (some ⟨cb,0,none⟩)] w fun e w'=>e=.returned (.tuple #[.bool ended,.int .i64 e0])/\Below w.heap.size w w':=by
 have hm:=iD (Z5c cb r ses name say kind take fresh ended e0 w hC);go_enter func13,ntmps13;go_wp2_with fail;refine hm.out.mono ?_;rintro e w1 ⟨rfl,hw1⟩;rw[hw1];clear hw1 w1 hm;go_upto_region 3 with fail;obtain⟨PS,hPS⟩:∃ PS:World->Prop,∀ y,PS y ↔ y=w.drew:=⟨_,fun _=>Iff.rfl⟩;have s1:∀ y:Cls PS,y.1.cell? ⟨cb,7,none⟩=some (.bool ended):=fun y=>by rw[(hPS _).1 y.2];exact hC.drew.cell 7
 have s2:∀ y:Cls PS,y.1.cell? ⟨cb,8,none⟩=some (.int .i64 e0):=fun y=>by rw[(hPS _).1 y.2];exact hC.drew.cell 8
 have s4:PS w.drew:=(hPS _).2 rfl;haveI : Nonempty (Cls PS):=⟨⟨_,s4⟩⟩;replace hPS:=iD hPS;clear hC;refine Yh (fun w'=>∃ y:Cls PS,w'=y.1) [] [0,1,2,3,4,5,6,7,8] 9 [] (by kernel_rfl) (by kernel_rfl) (fun _ d _ _ _ h=>by cases d <;> exact h) ⟨⟨_,s4⟩,rfl⟩ ?_;simp only[Y4,Z7,lB,lC,Zo,Zn];repeat (first | go_big_quiet_step (fail))
 refine lD ?_;go_wp2_with fail;go_returns;exact⟨rfl,(lI _ _).drew⟩
theorem Zam(name:Str)(w:World)(hn:name.length<=1000000) :
  Calls lF 59 #[.string ⟨name.toArray⟩] w fun e w'=>e=.returned (.string ⟨(64 :: name).toArray⟩)/\w'=w:=by
 go_enter func59,ntmps59;go_upto_region 1 with fail;refine wp_region_lit ?_;refine Y2 (.move (.tmp 0)) rfl rfl (.string ⟨name.toArray⟩) rfl ?_;go_frame;refine Zaj 9 9 (.const (.string ⟨#[64]⟩)) (.tmp 3) rfl rfl [64] name rfl rfl (by simp;omega) ?_;go_frame;go_wp2_with fail;go_returns;exact⟨rfl,rfl⟩
end
section
set_option maxRecDepth 100000
set_option maxHeartbeats 16000000
open Go.Lib renaming hid → iD
open Go.Proofs.Tryz
open Go.RowKit
theorem Zn1(m n:PMsg)(mo mn no nn:Value)(ok ok':Nat->Prop)(w:World)(h1:Ze w ok mo m.old)(h2:Ze w ok mn m.new)(h3:Ze w ok' no n.old)(h4:Ze w ok' nn n.new)(f1:HFit m.old)(f2:HFit m.new)(f3:HFit n.old)(f4:HFit n.new) :
  Calls lF 9 #[.agg (Zx m mo mn).toArray,.agg (Zx n no nn).toArray] w fun e w'=>∃ q:Bool,e=.returned (.bool q)/\Below w.heap.size w w'/\(q=true ↔ m=n):=by
 generalize hW1:(w.alloc (.cells (Zx m mo mn).toArray 25)).alloc (.cells (Zx n no nn).toArray 25)=w1;have hb1:Below w.heap.size w w1:=by rw[<-hW1];exact bL.alloc (by simp) _
 have hA1:Blk w1 w.heap.size 25 (Zx m mo mn):=by rw[<-hW1];exact (Blk.new_at (cs:=Zx m mo mn) rfl).alloc _
 have hB1:Blk w1 (w.heap.size+1) 25 (Zx n no nn):=by rw[<-hW1];exact Blk.new_at (cs:=Zx n no nn) (by simp)
 have hq1:=iD (fun W (hb:Below w.heap.size w W)=>Z20 m.old n.old mo no ok ok' W (h1.stay (fun b _ hlt=>hb.block b hlt) (fun b hb _=>hb)) (h3.stay (fun b _ hlt=>hb.block b hlt) (fun b hb _=>hb)) f1 f3);have hq2:=iD (fun W (hb:Below w.heap.size w W)=>Z20 m.new n.new mn nn ok ok' W (h2.stay (fun b _ hlt=>hb.block b hlt) (fun b hb _=>hb)) (h4.stay (fun b _ hlt=>hb.block b hlt) (fun b hb _=>hb)) f2 f4);clear h1 h2 h3 h4 f1 f2 f3 f4;obtain⟨k1,s1,n1,o1,u1,p1,c1⟩:=m;obtain⟨k2,s2,n2,o2,u2,p2,c2⟩:=n;obtain⟨A,hA⟩:∃ A,A=Zx ⟨k1,s1,n1,o1,u1,p1,c1⟩ mo mn:=⟨_,rfl⟩;obtain⟨C,hC⟩:∃ C,C=Zx ⟨k2,s2,n2,o2,u2,p2,c2⟩ no nn:=⟨_,rfl⟩;rw[<-hA] at hA1 hW1 ⊢;rw[<-hC] at hB1 hW1 ⊢;have a0:A[0]?=some (.int .i64 k1):=by rw[hA];rfl
 have a1:A[1]?=some (.int .i64 s1):=by rw[hA];rfl
 have a2:A[2]?=some (.string ⟨n1.toArray⟩):=by rw[hA];rfl
 have a3:A[3]?=some mo:=by rw[hA];rfl
 have a4:A[4]?=some mn:=by rw[hA];rfl
 have a5:A[5]?=some (.string ⟨p1.toArray⟩):=by rw[hA];rfl
 have a6:A[6]?=some (.int .i64 c1):=by rw[hA];rfl
 have b0:C[0]?=some (.int .i64 k2):=by rw[hC];rfl
 have b1:C[1]?=some (.int .i64 s2):=by rw[hC];rfl
 have b2:C[2]?=some (.string ⟨n2.toArray⟩):=by rw[hC];rfl
 have b3:C[3]?=some no:=by rw[hC];rfl
 have b4:C[4]?=some nn:=by rw[hC];rfl
 have b5:C[5]?=some (.string ⟨p2.toArray⟩):=by rw[hC];rfl
 have b6:C[6]?=some (.int .i64 c2):=by rw[hC];rfl
 replace hA:=iD hA;replace hC:=iD hC;have x0:w1.cell? ⟨w.heap.size,0,none⟩=some _:=(hA1.cell 0).trans a0;have y0:w1.cell? ⟨w.heap.size+1,0,none⟩=some _:=(hB1.cell 0).trans b0;have x1:w1.cell? ⟨w.heap.size,1,none⟩=some _:=(hA1.cell 1).trans a1;have y1:w1.cell? ⟨w.heap.size+1,1,none⟩=some _:=(hB1.cell 1).trans b1;have x2:w1.cell? ⟨w.heap.size,2,none⟩=some _:=(hA1.cell 2).trans a2;have y2:w1.cell? ⟨w.heap.size+1,2,none⟩=some _:=(hB1.cell 2).trans b2;have x3:w1.cell? ⟨w.heap.size,3,none⟩=some _:=(hA1.cell 3).trans a3;have y3:w1.cell? ⟨w.heap.size+1,3,none⟩=some _:=(hB1.cell 3).trans b3;have x4:w1.cell? ⟨w.heap.size,4,none⟩=some _:=(hA1.cell 4).trans a4;have y4:w1.cell? ⟨w.heap.size+1,4,none⟩=some _:=(hB1.cell 4).trans b4;have x5:w1.cell? ⟨w.heap.size,5,none⟩=some _:=(hA1.cell 5).trans a5;have y5:w1.cell? ⟨w.heap.size+1,5,none⟩=some _:=(hB1.cell 5).trans b5;have x6:w1.cell? ⟨w.heap.size,6,none⟩=some _:=(hA1.cell 6).trans a6;have y6:w1.cell? ⟨w.heap.size+1,6,none⟩=some _:=(hB1.cell 6).trans b6;go_enter func9,ntmps9;by_cases he0:k1=k2
 ·subst he0;by_cases he1:s1=s2
  ·subst he1;by_cases he2:n1=n2
   ·subst he2;go_wp2_with fail;refine (hq1.out w1 hb1).mono ?_;rintro e w3 ⟨rfl,hc3⟩;replace hA1:=hA1.below hc3 hA1.lt;replace hB1:=hB1.below hc3 hB1.lt;have hb3:=Below.trans hb1 (hc3.mono (Below.size hb1));clear hc3 x0 y0 x1 y1 x2 y2 x3 y3 x4 y4 x5 y5 x6 y6;have x4:w3.cell? ⟨w.heap.size,4,none⟩=some _:=(hA1.cell 4).trans a4;have y4:w3.cell? ⟨w.heap.size+1,4,none⟩=some _:=(hB1.cell 4).trans b4;have x5:w3.cell? ⟨w.heap.size,5,none⟩=some _:=(hA1.cell 5).trans a5;have y5:w3.cell? ⟨w.heap.size+1,5,none⟩=some _:=(hB1.cell 5).trans b5;have x6:w3.cell? ⟨w.heap.size,6,none⟩=some _:=(hA1.cell 6).trans a6;have y6:w3.cell? ⟨w.heap.size+1,6,none⟩=some _:=(hB1.cell 6).trans b6;by_cases he3:o1=o2
    ·subst he3;rw[decide_eq_true rfl];go_wp2_with fail;refine (hq2.out w3 hb3).mono ?_;rintro e w4 ⟨rfl,hc4⟩;replace hA1:=hA1.below hc4 hA1.lt;replace hB1:=hB1.below hc4 hB1.lt;have hb4:=Below.trans hb3 (hc4.mono (Below.size hb3));clear hc4 x4 y4 x5 y5 x6 y6;have x4:w4.cell? ⟨w.heap.size,4,none⟩=some _:=(hA1.cell 4).trans a4;have y4:w4.cell? ⟨w.heap.size+1,4,none⟩=some _:=(hB1.cell 4).trans b4;have x5:w4.cell? ⟨w.heap.size,5,none⟩=some _:=(hA1.cell 5).trans a5;have y5:w4.cell? ⟨w.heap.size+1,5,none⟩=some _:=(hB1.cell 5).trans b5;have x6:w4.cell? ⟨w.heap.size,6,none⟩=some _:=(hA1.cell 6).trans a6;have y6:w4.cell? ⟨w.heap.size+1,6,none⟩=some _:=(hB1.cell 6).trans b6;by_cases he4:u1=u2
     ·subst he4;rw[decide_eq_true rfl];by_cases he5:p1=p2
      ·subst he5;by_cases he6:c1=c2
       ·subst he6;go_wp2_with fail;go_returns;first | exact⟨rfl,hb4⟩ | exact⟨true,rfl,hb4,⟨fun _=>rfl,fun _=>rfl⟩⟩
       ·have hne:Hid (¬ (⟨k1,s1,n1,o1,u1,p1,c1⟩:PMsg)=⟨k1,s1,n1,o1,u1,p1,c2⟩):=iD (fun h=>he6 (by injection h));have d6:(c1 == c2)=false:=by simpa using he6
        go_wp2_with fail;go_returns;first | exact⟨rfl,hb4⟩ | exact⟨false,rfl,hb4,⟨fun h=>absurd h (by simp),fun h=>absurd h hne.out⟩⟩
      ·have hne:Hid (¬ (⟨k1,s1,n1,o1,u1,p1,c1⟩:PMsg)=⟨k1,s1,n1,o1,u1,p2,c2⟩):=iD (fun h=>he5 (by injection h));have d5:(p1 == p2)=false:=by simpa using he5
       go_wp2_with fail;go_returns;first | exact⟨rfl,hb4⟩ | exact⟨false,rfl,hb4,⟨fun h=>absurd h (by simp),fun h=>absurd h hne.out⟩⟩
     ·have hne:Hid (¬ (⟨k1,s1,n1,o1,u1,p1,c1⟩:PMsg)=⟨k1,s1,n1,o1,u2,p2,c2⟩):=iD (fun h=>he4 (by injection h));rw[decide_eq_false he4];go_wp2_with fail;go_returns;first | exact⟨rfl,hb4⟩ | exact⟨false,rfl,hb4,⟨fun h=>absurd h (by simp),fun h=>absurd h hne.out⟩⟩
    ·have hne:Hid (¬ (⟨k1,s1,n1,o1,u1,p1,c1⟩:PMsg)=⟨k1,s1,n1,o2,u2,p2,c2⟩):=iD (fun h=>he3 (by injection h));rw[decide_eq_false he3];go_wp2_with fail;go_returns;first | exact⟨rfl,hb3⟩ | exact⟨false,rfl,hb3,⟨fun h=>absurd h (by simp),fun h=>absurd h hne.out⟩⟩
   ·have hne:Hid (¬ (⟨k1,s1,n1,o1,u1,p1,c1⟩:PMsg)=⟨k1,s1,n2,o2,u2,p2,c2⟩):=iD (fun h=>he2 (by injection h));have d2:(n1 == n2)=false:=by simpa using he2
    go_wp2_with fail;go_returns;first | exact⟨rfl,hb1⟩ | exact⟨false,rfl,hb1,⟨fun h=>absurd h (by simp),fun h=>absurd h hne.out⟩⟩
  ·have hne:Hid (¬ (⟨k1,s1,n1,o1,u1,p1,c1⟩:PMsg)=⟨k1,s2,n2,o2,u2,p2,c2⟩):=iD (fun h=>he1 (by injection h));have d1:(s1 == s2)=false:=by simpa using he1
   go_wp2_with fail;go_returns;first | exact⟨rfl,hb1⟩ | exact⟨false,rfl,hb1,⟨fun h=>absurd h (by simp),fun h=>absurd h hne.out⟩⟩
 ·have hne:Hid (¬ (⟨k1,s1,n1,o1,u1,p1,c1⟩:PMsg)=⟨k2,s2,n2,o2,u2,p2,c2⟩):=iD (fun h=>he0 (by injection h));have d0:(k1 == k2)=false:=by simpa using he0
  go_wp2_with fail;go_returns;first | exact⟨rfl,hb1⟩ | exact⟨false,rfl,hb1,⟨fun h=>absurd h (by simp),fun h=>absurd h hne.out⟩⟩
end
end Go.Proofs.YtefjlobdifjogaaGreatDoor
