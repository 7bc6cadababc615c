import Derived.Test.YtefjlobdifjogaaGreatDoorP15
import Derived.Lib.ConvBytes
open Bool renaming and_eq_true → lQ
open Go renaming rounds_succ → lD, wp_loop_rounds → lI, getD_replicate_false → lS
open Go.Fence renaming wide → lA
open Go.Lib renaming bytesWorld → lE, bytesWorld_size → lV
open Go.Proofs.Tryz renaming prog → lB
open Go.Region renaming seqB → lH, lexTailB → lR
open Go.RowKit.Below renaming refl → lF
open Go.World renaming setRow → lJ, freeze → lK, alloc → lL, drew → lM, alloc_eq → lN, drew_eq → lO
open List renaming length_cons → lP, nil_append → lT, length_map → lU
open Nat renaming le_refl → lC, zero_add → lG
namespace Go.Proofs.YtefjlobdifjogaaGreatDoor
section
open Go.RowKit Go.Shelf
section
variable {P:Program} {ops:Array Oper} {C:World->Prop} {md:Region.Mode} {m:Nat}
theorem Zjx{n:Nat}{o:Oper}{a:Act}{K:Act->World->Prop}{Q:Exit->Act->World->Prop}:∀ r,o.upon P a K Q r->o.uponIn lA n P a K Q r:=by
 intro r h;have hd:lA.depth.isSome=true->1<=n:=fun h=>by cases h
 match r with
 | .ok (.value v) w'=>exact h
 | .ok .skip w'=>exact h
 | .ok (.defer d) w'=>exact h
 | .ok (.enter f args) w'=>exact⟨hd,callsIn_wide.2 h⟩
 | .ok (.row row args) w' =>
  refine⟨hd,fun c cs _=>?_⟩;obtain⟨v,w2,h1,h2⟩:=h c cs;exact⟨v,w2,h1,stepsIn_wide.2 h2⟩
 | .ok (.round ..) w'=>exact h.elim
 | .halt (.panic v) w'=>exact h
theorem Zjy{i:Nat}{a:Act}{K:Act->Prop}{K':Act->World->Prop}{Q':Exit->Act->World->Prop}{w:World}(hC:C w)(h:∀ a w',C w'->K a->K' a w')(hh:qOp P ops C i K a):wpOpIn lA m P ops Q' i K' a w:=by
 unfold qOp at hh;unfold wpOpIn;split
 ·rename_i ho;simp only[ho] at hh;exact h _ _ hC hh
 ·rename_i o ho;simp only[ho] at hh;split
  ·rename_i hw;simp only[hw,if_true] at hh;exact⟨fun _ _=>trivial,Zjx _ (Oper.wp_of_quiet hC h hh)⟩
  ·rename_i hw;simp only[hw] at hh;exact⟨fun _ _=>trivial,h _ _ hC hh⟩
theorem Z9w{n g:Nat}{L:Array Bool->Act->Prop}{Q':Exit->Act->World->Prop}(hL:∀ listed a w,C w->L listed a->wpAnyIn lA m P md ops Q' g listed a w) :
  ∀ (f:Nat) (listed:Array Bool) (a:Act) (w:World),C w->Oj P md ops C n L f listed a->wpAnyIn lA m P md ops Q' (f+g) listed a w
 | 0,listed,a,w,hw,h=>by rw[lG];exact hL _ _ _ hw h
 | f+1,listed,a,w,hw,h=>by
  rw[show f+1+g=(f+g)+1 by omega];exact⟨fun h0=>absurd h0 h.1,fun i hi=>Zjy hw (fun a' w' hw' h'=>Z9w hL f _ a' w' hw' h') (h.2 i hi).2⟩
theorem Z9x{Q':Exit->Act->World->Prop}:∀ (l:List Oper) (k:Nat) (listed:Array Bool) (a:Act) (w:World),(∀ j,l[j]?=ops[k+j]?) ->
  lH md ops l.length k listed=true->wpListIn lA m P ops Q' l a w->wpAnyIn lA m P md ops Q' l.length listed a w
 | [],_,_,_,_,_,hB,h=>⟨by simpa[lH] using hB,h⟩
 | o :: l,k,listed,a,w,hl,hB,h=>by
  have h0:ops[k]?=some o:=by simpa using (hl 0).symm
  simp only[lP,lH,lQ,decide_eq_true_eq] at hB;refine⟨fun h1=>(by rw[hB.1] at h1;cases h1),fun i hi=>?_⟩;rw[hB.1] at hi;have hik:i=k:=by simpa using hi
  subst hik;have hw:wpOpIn lA m P ops Q' i (wpListIn lA m P ops Q' l) a w:=by unfold wpOpIn;simp only[h0];exact h
  exact wpOpIn_mono (fun a' w' h'=>Z9x l (i+1) _ a' w' (fun j=>by have:=hl (j+1);simpa[Nat.add_assoc,Nat.add_comm 1 j] using this) hB.2 h') hw
theorem Zjz{id:Nat}{Q:Exit->Act->World->Prop}{a:Act}{w:World}{l:List Oper}(n:Nat)(hm:P.follows .mixedOrders=true)(hB:lR .any l.toArray n=true)
  (h:wpQuiet P l.toArray (fun w'=>∃ n,w'=w.drewN n) (fun a'=>∀ w',(∃ n,w'=w.drewN n)->wpListIn lA m P l.toArray Q (l.drop n) a' w') (l.take n) a):(Code.region id l.toArray true).wpIn lA m P Q a w:=by
 simp only[lR,lQ,decide_eq_true_eq] at hB;obtain⟨⟨⟨⟨hsel,hn⟩,hs⟩,hc⟩,hlex⟩:=hB;have hn':n<l.length:=by simpa using hn
 have htl:(l.take n).length=n:=by simp;omega
 have hdl:(l.drop n).length=l.toArray.size - n:=by simp
 have inv0:HeadInv .any l.toArray n (Array.replicate l.toArray.size false) :=
  ⟨by simp,fun j oj _ hl=>(by rw[lS] at hl;cases hl),fun t _ ht=>getD_in (by simpa using ht) (lS _ _)⟩
 have H:=Z30 (md:=.any) (g:=l.toArray.size - n) hsel hs hc hn (l.take n) 0 _ a (fun j hj=>by
  have hj':j<n:=by rw[htl] at hj;exact hj
  simp[hj']) (by simpa using htl) inv0 (by rw[htl];exact hlex) h
 refine wpIn_region_any hm ?_;have:=Z9w (m:=m) (Q':=Q) (g:=l.toArray.size - n) (fun listed a' w' hw' hL=>by
  have:=Z9x (m:=m) (md:=.any) (Q':=Q) (l.drop n) n listed a' w' (fun j=>by simp[List.getElem?_drop]) (by rw[hdl];exact hL.1) (hL.2 w' hw');rw[hdl] at this;exact this) (l.take n).length _ a { w with drawn:=w.drawn+1 } ⟨1,rfl⟩ H
 rw[htl,show n+(l.toArray.size - n)=l.toArray.size by simp;omega] at this;exact this
end
end
section
set_option maxRecDepth 100000
set_option maxHeartbeats 16000000
open Go.Lib renaming hid → iD
open Go.Proofs.Tryz
open Go.RowKit Go.Shelf
theorem Zk0:InfoOf lB 57 (.slice none 0 0) 1 24:=⟨by kernel_rfl,rfl,by omega⟩
theorem Zk1(A:Option Addr)(n c:Nat)(w:World):(Instr.buildSlice 365 1 #[(0,.slice A n c)]).run lB w=.ok (.slice (some ⟨w.heap.size,0,none⟩) 1 1) (w.alloc (.cells #[.slice A n c] 57)):=by kernel_rfl
theorem Uo{w:World}{base n k c:Nat}{e:TypeId}{A:Option Addr}{xs:List Value}(h:w.ownsRow base e k (.slice A n c) n xs)(hn:0<n):∃ b r,A=some ⟨b,0,none⟩/\base<=b/\Blk w b e (xs++r)/\n<=c:=by
 rcases h with ⟨h1,⟨h2,h3⟩ | ⟨g,cap,cur,h2,h3,h4,h5,h6,h7,h8⟩⟩
 ·omega
 ·injection h2 with e1 e2 e3
  subst e1;subst e3;refine⟨g,cur.toList.drop (n*k),rfl,h3,?_,h5⟩;have : xs++cur.toList.drop (n*k)=cur.toList:=by rw[<-h8,List.take_append_drop]
  rw[this];exact h4
def Z9y(base:Nat)(ds xs:Str)(_:Unit)(vs:Array Value)(W:World):Prop:=∃ V,vs=#[.agg (ds.map B).toArray,V]/\W.ownsRow base 5 1 V xs.length (xs.map B)
theorem Zk2(ds xs:Str)(hdl:ds.length=32)(hx:xs.length<=131072)(bx sb mb:Nat)(n:Int)(VA:Option Addr)(vc:Nat)(w:World)(hX:Blk w bx 280 [.pointer (some ⟨sb,0,none⟩)])(h:Blk w sb 363 (Qp mb n))(hM:Y9 w mb [(.agg (ds.map B).toArray,.slice VA xs.length vc)])(hR:Rd w (· < w.heap.size) VA (xs.map B))(hc:xs.length<=vc) :
  Yields 252 #[.pointer (some ⟨bx,0,none⟩)] (Z9y w.heap.size ds xs) [()] (fun A B=>Below A.heap.size A B) (fun _ _=>True) w:=by
 intro l J W hb hJ hY h0;have hX1:=hX.below hb hX.lt;have h1:=h.below hb h.lt;have hM1:=hM.below hb hM.lt;have hR1:=hR.stayB hb;have cX:W.cell? ⟨bx,0,none⟩=some (.pointer (some ⟨sb,0,none⟩)):=hX1.cell 0;have hna:=iD (Zjw ds hdl (.slice VA xs.length vc) sb mb n W h1 hM1);have hge:=iD (fun W2 (hb2:Below W.heap.size W W2)=>Zjt ds xs hdl hx sb mb n VA vc W2 (h1.below hb2 h1.lt) (hM1.below hb2 hM1.lt) ((hR1.stayB hb2).weak (fun b hlt _=>hlt)) hc);replace hX1:=iD hX1;replace hY:=iD hY;replace hJ:=iD hJ;replace h0:=iD h0;replace hb:=iD hb;clear h1 hM1 hR1 hX h hM hR;refine callsIn_of_wp func252 rfl trivial ?_ rfl;simp only[ntmps252,List.size_toArray,lP,List.length_nil,Nat.reduceAdd,Nat.reduceSub,Array.replicate_succ,Array.replicate_zero,List.push_toArray,List.append_toArray,lT,List.cons_append];refine wpIn_wide.2 ?_;go_wp2_with fail;refine hna.out.mono ?_;rintro e W2 ⟨LA,lc,rfl,hrow2,hb2⟩;obtain⟨lb,lr,rfl,hlb,hL2,hlc⟩:=Uo hrow2 (by omega);obtain⟨dc,hdc⟩:∃ dc,dc=ds.map B:=⟨_,rfl⟩;have hdcl:dc.length=32:=by rw[hdc,lU,hdl]
 have hdz:(lB.info? 59).map (·.size)=some dc.length:=by rw[hdc];exact Zg hdl
 have hdo:∀ v ∈ dc,v.oneCell'=true:=by rw[hdc];exact Y5 _
 rw[<-hdc] at hL2;have hgr:=hge.out;rw[<-hdc] at hgr;clear hrow2 hna hge;replace hdc:=iD hdc;replace hdz:=iD hdz;replace hdo:=iD hdo;replace hL2:=iD hL2;replace hb2:=iD hb2;replace hgr:=iD hgr;go_wp2_with fail;refine lI 2 ?_;rw[lD];go_upto_region 5 with (first
  | (refine Xj rfl 59 (.tmp 17) rfl lb 0 rfl 59 _ dc lr hL2.out (by simp) _ underlying59 rfl hdz.out ?_;go_frame)
  | (refine Zd rfl 59 (.tmp 6) (.tmp 18) rfl W2.heap.size dc rfl rfl 59 Z2 (Blk.new_at rfl) (by rw[hdcl];rfl) hdz.out hdo.out ?_;go_frame)
  | fail)
 generalize hW3:lJ _ W2.heap.size dc.toArray=W3;have hD3:Blk W3 W2.heap.size 59 dc:=by rw[<-hW3];exact (Blk.new_at (cs:=Z2) rfl).setRow_same dc
 have hb3:Below W2.heap.size W2 W3:=by rw[<-hW3];exact below_setRow ((lF _ _).alloc (lC _) (.cells Z2.toArray 59)) (lC _) dc.toArray
 have hL3:=hL2.out.below hb3 hL2.out.lt;have hb13:=hb2.out.trans (hb3.mono hb2.out.size);have cX3:W3.cell? ⟨bx,0,none⟩=some (.pointer (some ⟨sb,0,none⟩)):=(hX1.out.below hb13 hX1.out.lt).cell 0;clear hW3 hL2 hb2 cX hb3;replace hD3:=iD hD3;replace hL3:=iD hL3;replace hb13:=iD hb13;go_wp2_with (first
  | (refine Zy rfl 59 (.tmp 6) rfl W2.heap.size rfl 59 dc hD3.out _ underlying59 rfl hdz.out ?_;go_frame)
  | fail)
 refine (hgr.out _ hb13.out).mono ?_;rintro e W4 ⟨V,rfl,hrow4,hb4⟩;obtain⟨VB,vb,rfl,_,_⟩:=Za hrow4;have hb14:=hb13.out.trans (hb4.mono hb13.out.size);have hL4:=hL3.out.below hb4 hL3.out.lt;have hrow4':=J1 hb13.out.size hrow4;clear cX3 hD3 hL3 hb13 hgr hb4 hrow4;replace hL4:=iD hL4;replace hb14:=iD hb14;replace hrow4':=iD hrow4';go_upto_region 6 with fail;refine wp_region_lit ?_;refine Y2 (.move (.tmp 4)) rfl rfl Z0 rfl ?_;go_frame;refine Y2 (.move (.tmp 7)) rfl rfl (.slice VB xs.length vb) rfl ?_;go_frame;refine J5 rfl _ (Jy 365 (.tmp 26) rfl (.slice VB xs.length vb) _ rfl (Zk1 VB xs.length vb W4)) ?_;go_frame;refine Yt _ rfl (.tmp 25) (.tmp 27) 365 rfl W.heap.size 57 _ 1 24 underlying365 Zk0 Z0 0 [] rfl ⟨rfl,.inl ⟨rfl,rfl⟩⟩ (fun _=>True) (some ⟨W4.heap.size,0,none⟩) 1 1 [.slice VB xs.length vb] rfl rfl (Rd.of_blk (cs:=[.slice VB xs.length vb]) (r:=[]) (Blk.new_at rfl) (by simp) trivial) (by simp[Value.oneCell']) (by unfold maxLen;omega) (by omega) (by have:=hb14.out.size;simp;omega) ?_;intro R W5 hrow hg hv;rw[lG,lT] at hrow;obtain⟨RA,rc,rfl,_,_⟩:=Za hrow;obtain⟨rb,rr,rfl,hrb,hR5,hrc⟩:=Uo hrow (by omega);go_frame;refine Y2 (.assign (.tmp 28)) rfl rfl (.slice (some ⟨rb,0,none⟩) 1 rc) rfl ?_;go_frame;refine wpList_nil ?_;have hb5:Below W4.heap.size W4 W5:=((lF W4.heap.size W4).alloc (lC _) (.cells #[.slice VB xs.length vb] 57)).trans (Yo (v:=Z0) (n:=0) (xs:=[]) (e:=57) (size:=1) ⟨rfl,.inl ⟨rfl,rfl⟩⟩ hg (by simp));have hL5:=hL4.out.below hb5 hL4.out.lt;have hrow5:=Zj hrow4'.out (Touch.ofBelow (L:=[]) hb5) (fun b hb hm=>by cases hm);have hb15:=hb14.out.trans (hb5.mono hb14.out.size);clear hL4 hrow4' hb14 hrow hg hv hb5;replace hL5:=iD hL5;replace hrow5:=iD hrow5;replace hb15:=iD hb15;replace hR5:=iD hR5;go_wp2_with fail;rw[lD];go_wp2_with fail;refine lI 2 ?_;rw[lD];go_upto_region 11 with (first
  | (refine Xj rfl 59 (.tmp 35) rfl lb 0 rfl 59 _ dc lr hL5.out (by simp) _ underlying59 rfl hdz.out ?_;go_frame)
  | (refine Zd rfl 59 (.tmp 10) (.tmp 36) rfl W5.heap.size dc rfl rfl 59 Z2 (Blk.new_at rfl) (by rw[hdcl];rfl) hdz.out hdo.out ?_;go_frame)
  | fail)
 generalize hW6:lJ _ W5.heap.size dc.toArray=W6;have hD6:Blk W6 W5.heap.size 59 dc:=by rw[<-hW6];exact (Blk.new_at (cs:=Z2) rfl).setRow_same dc
 have hb6:Below W5.heap.size W5 W6:=by rw[<-hW6];exact below_setRow ((lF _ _).alloc (lC _) (.cells Z2.toArray 59)) (lC _) dc.toArray
 have hR6:=hR5.out.below hb6 hR5.out.lt;have hrow6:=Zj hrow5.out (Touch.ofBelow (L:=[]) hb6) (fun b hb hm=>by cases hm);have hb16:=hb15.out.trans (hb6.mono hb15.out.size);clear hW6 hL5 hR5 hrow5 hb15 hb6;have c6:W6.cell? ⟨rb,0,none⟩=some (.slice VB xs.length vb):=hR6.cell 0;have hD7:Hid (∀ w',(∃ n,w'=W6.drewN n)->Blk w' W5.heap.size 59 dc):=iD (by rintro _ ⟨n,rfl⟩;exact hD6.drewN n);have hYY:∀ nq,YieldAt lA (0 - 1 - 1) lB l #[.agg dc.toArray,.slice VB xs.length vb] (W6.drewN nq) fun e B=>e=.returned (.bool true)/\J ([]++[()]) B/\True:=fun nq =>
  hY.out [] () [] _ _ (hJ.out _ _ _ h0.out (hb16.trans ((Touch.drewN (L:=[]) nq).below hb16.size (fun _ hi=>by cases hi)))) rfl ⟨.slice VB xs.length vb,by rw[hdc.out],J1 hb.out.size hrow6⟩
 replace hYY:=iD hYY;clear hR6 hrow6 hD6 hb16;refine (wpIn_wide (n:=0 - 1)).1 ?_;refine Zjz 6 (by kernel_rfl) (by kernel_rfl) ?_;simp only[List.take_succ_cons,List.take_zero,List.drop_succ_cons,List.drop_zero];repeat (first
  | go_big_quiet_step (fail)
  | (refine Yq 59 (.tmp 10) rfl rfl W5.heap.size 0 rfl 59 dc dc [] hD7.out (by simp) _ underlying59 rfl hdz.out ?_;go_frame))
 refine wpQuiet_nil ?_;rintro _ ⟨nq,rfl⟩;obtain⟨fn,tmps,assign,body,hy,hR⟩:=hYY.out nq;clear hYY hD7 c6;generalize W6.drewN nq=W7 at hy hR ⊢
 gi_wp2
 refine⟨rfl,hR.mono ?_⟩;rintro e W8 ⟨rfl,hJ8,_⟩;replace hJ8:=iD hJ8;clear hy hR
 gi_wp2
 go_wp2_with fail;rw[lD];go_wp2_with fail;exact bodyPost_end (v:=.tuple #[]) (results_none (by rfl) _ _ _) rfl ⟨⟨_,rfl⟩,hJ8.out⟩
theorem Zk3(sb:Nat)(w:World):Calls lB 186 #[.pointer (some ⟨sb,0,none⟩)] w fun e w'=>e=.returned (.func (.func 252) #[] #[.pointer (some ⟨w.heap.size,0,none⟩)])/\Blk w' w.heap.size 280 [.pointer (some ⟨sb,0,none⟩)]/\Below w.heap.size w w':=by
 have hmf:∀ (fn:Fn) (first cap:Array Value) (w:World),(Instr.makeFunc fn first cap).run lB w=.ok (.func fn first cap) w:=fun _ _ _ _=>rfl;go_enter func186,ntmps186;go_wp2_with fail;go_returns;exact⟨rfl,Blk.new_at (cs:=[.pointer (some ⟨sb,0,none⟩)]) rfl,by go_grown⟩
end
section
open Go.Proofs.Tryz
open Go.RowKit
theorem Z55(w:World)(e:TypeId)(s:ByteArray):Below w.heap.size w (lE w e s) :=
 ⟨by simp[lE,lK,lL,lM,-lN,-lO],by simp[lE,lK,lL,lM,-lN,-lO],by simp[lE,lK,lL,lM,-lN,-lO],by rw[lV];omega,fun i hi=>Lib.bytesWorld_at_old w e s i hi⟩
theorem Z56(w:World)(e:TypeId)(s:Str):Rd (lE w e ⟨s.toArray⟩) (w.heap.size = ·) (some ⟨w.heap.size,0,none⟩) (s.map B):=fun _=>by
 refine⟨⟨w.heap.size,0,none⟩,rfl,rfl,fun j u hu=>?_⟩;have hj:j<s.length:=by have:=(List.getElem?_eq_some_iff.1 hu).1;simpa using this
 rw[Jk,lG,Lib.bytesWorld_cell w e _ j (by simpa[ByteArray.size] using hj)];rw[List.getElem?_map,List.getElem?_eq_getElem hj] at hu;simp only[Option.map_some,Option.some.injEq] at hu;rw[<-hu];simp[bv,hj,List.getD]
theorem Z0s{ops:Array Oper}{rest:List Oper}{o:Oper}{a:Act}{w:World}{Q:Exit->Act->World->Prop}(hgd:o.guard=none)(x:Operand)(ho:o.op=.convert 9 57 x)(s:Str)(hx:a.eval x=.string ⟨s.toArray⟩)
  (h:∀ w' c,Below w.heap.size w w'->w.heap.size<w'.heap.size->s.length<=c->Rd w' (w.heap.size = ·) (some ⟨w.heap.size,0,none⟩) (s.map B)->wpList lB ops Q rest (a.put o.dst (.slice (some ⟨w.heap.size,0,none⟩) s.length c)) w'):wpList lB ops Q (o :: rest) a w:=by
 refine J5 hgd _ ?_ (h (lE w 5 ⟨s.toArray⟩) (grownCap w s.length 0 5) (Z55 _ _ _) (by rw[lV];omega) (by have:=grownCap_ge w s.length 0 5;omega) (Z56 _ _ _));have hl:(⟨s.toArray⟩:ByteArray).size=s.length:=Jw s;have:=Lib.run_convert_string_bytes (P:=lB) w 9 57 5 ⟨s.toArray⟩ underlying9 underlying57 underlying5;rw[hl] at this;simp only[execOp,ho,hx,Sem.run_bind,this,Result.andThen_ok,Sem.run_pure]
end
section
set_option maxRecDepth 100000
set_option maxHeartbeats 8000000
open Go.Lib renaming hid → iD
open Go.Proofs.Tryz
open Go.RowKit
theorem Z9z(n:Nat)(hn:n<=4611686018427387904)(w:World):Calls lB 184 #[.int .i64 n] w fun e w'=>e=.returned (.string ⟨(Z3 n).toArray⟩)/\Below w.heap.size w w':=by
 have hnum:=iD (Z7f n w hn);go_enter func184,ntmps184;go_wp2_with fail;refine hnum.out.mono ?_;rintro e w2 ⟨V,rfl,hrow,hb⟩;obtain⟨FA,fc,rfl,_,_⟩:=Za hrow;obtain⟨xs,hxs⟩:∃ xs,xs=Z3 n:=⟨_,rfl⟩;rw[<-hxs] at hrow ⊢;have hrd:Rd w2 (w.heap.size<=·) FA (xs.map B):=K1 hrow;clear hnum hrow;replace hrd:=iD hrd;replace hxs:=iD hxs;go_wp2_with (first
  | (refine Qf rfl 57 9 (.tmp 10) rfl 5 underlying57 underlying5 underlying9 FA xs fc rfl hrd.out ?_;go_frame)
  | fail)
 go_returns;refine⟨?_,hb⟩;rw[<-hxs.out];rfl
theorem Zk4(b:Value)(depth:Int)(w:World):Calls lB 187 #[.slice none 0 0,b,.bool true,.int .i64 depth] w fun e w'=>e=.returned (.tuple #[.int .i64 0,b])/\w'=w:=by
 go_enter func187,ntmps187;go_wp2_with fail;go_returns;exact⟨rfl,rfl⟩
theorem Zk5(xs:Str)(hx:xs.length<=131072)(A:Option Addr)(c:Nat)(w:World)(hR:Rd w (· < w.heap.size) A [.string ⟨xs.toArray⟩])(hK:Zm w) :
  Calls lB 183 #[.slice A 1 c] w fun e w'=>∃ sb mb V,e=.returned (.tuple #[.pointer (some ⟨sb,0,none⟩),.int .i64 0])/\Blk w' sb 363 (Qp mb xs.length)/\Y9 w' mb [(.agg ((Y6 xs).map B).toArray,V)]/\w'.ownsRow w.heap.size 5 1 V xs.length (xs.map B)/\Below w.heap.size w w':=by
 obtain⟨b,o,rfl,_,hbl,hcell⟩:=hR.at (by simp);have hc0:w.cell? ⟨b,o,none⟩=some (.string ⟨xs.toArray⟩):=by simpa using hcell 0 _ rfl
 have hnew:=iD (Zjp w);have hsz:(⟨xs.toArray⟩:ByteArray).size=xs.length:=Jw xs;clear hR hcell;go_enter func183,ntmps183;go_wp2_with fail;refine hnew.out.mono ?_;rintro e w2 ⟨sb,mb,rfl,hS2,hM2,hmb,hsb,hb2⟩;have hc2:w2.cell? ⟨b,o,none⟩=some (.string ⟨xs.toArray⟩):=(hb2.cell (p:=⟨b,o,none⟩) hbl).trans hc0;have hK2:=keys_below hK hb2;clear hnew hc0 hK;replace hS2:=iD hS2;replace hM2:=iD hM2;replace hb2:=iD hb2;replace hK2:=iD hK2;go_wp2_with fail;refine lI 2 ?_;rw[lD];go_upto_region 5 with fail;refine wp_region_lit ?_;refine Y2 (.move (.tmp 4)) rfl rfl (.pointer (some ⟨sb,0,none⟩)) rfl ?_;go_frame;refine Y2 (.move (.tmp 6)) rfl rfl (.string ⟨xs.toArray⟩) rfl ?_;go_frame;refine Z0s rfl (.tmp 18) rfl xs rfl ?_;intro w3 c3 hb3 hlt3 hc3 hrd3;go_frame;have hS3:=hS2.out.below hb3 hS2.out.lt;have hM3:=hM2.out.below hb3 hM2.out.lt;have hput:=Zjs xs hx sb mb (some ⟨w2.heap.size,0,none⟩) c3 w3 hS3 hM3 (hrd3.weak (fun b _ e=>by omega)) hc3 (keys_below hK2.out hb3);have hb13:=hb2.out.trans (hb3.mono hb2.out.size);clear hS2 hM2 hb2 hK2 hc2 hb3 hrd3;replace hput:=iD hput;replace hS3:=iD hS3;replace hM3:=iD hM3;replace hb13:=iD hb13;go_wp2_with fail;refine hput.out.mono ?_;rintro e w4 ⟨rfl,hT4,V,hS4,hM4,hrow4⟩;obtain⟨ds,hds⟩:∃ ds,ds=Y6 xs:=⟨_,rfl⟩;have hdl:ds.length=32:=by rw[hds];exact J2 xs
 rw[<-hds] at hM4 ⊢;obtain⟨dc,hdc⟩:∃ dc,dc=ds.map B:=⟨_,rfl⟩;have hdcl:dc.length=32:=by rw[hdc,lU,hdl]
 have hdz:(lB.info? 59).map (·.size)=some dc.length:=by rw[hdc];exact Zg hdl
 have hdo:∀ v ∈ dc,v.oneCell'=true:=by rw[hdc];exact Y5 _
 rw[<-hdc] at hM4 ⊢;have hb14:Below w.heap.size w w4:=hb13.out.trans (hT4.below hb13.out.size (fun i hi=>by
  simp only[List.mem_cons,List.not_mem_nil,or_false] at hi;rcases hi with rfl | rfl
  ·omega
  ·omega))
 have hrow4':=J1 hb13.out.size hrow4;clear hput hS3 hM3 hb13 hT4 hrow4;replace hds:=iD hds;replace hdc:=iD hdc;replace hdz:=iD hdz;replace hdo:=iD hdo;replace hS4:=iD hS4;replace hM4:=iD hM4;replace hb14:=iD hb14;replace hrow4':=iD hrow4';go_upto_region 6 with (first
  | (refine Zd rfl 59 (.tmp 7) (.tmp 21) rfl w4.heap.size dc rfl rfl 59 Z2 (Blk.new_at rfl) (by rw[hdcl];rfl) hdz.out hdo.out ?_;go_frame)
  | fail)
 generalize hW5:lJ _ w4.heap.size dc.toArray=w5;have hb5:Below w4.heap.size w4 w5:=by rw[<-hW5];exact below_setRow ((lF _ _).alloc (lC _) (.cells Z2.toArray 59)) (lC _) dc.toArray
 have hS5:=hS4.out.below hb5 hS4.out.lt;have hM5:=hM4.out.below hb5 hM4.out.lt;have hrow5:=Zj hrow4'.out (Touch.ofBelow (L:=[]) hb5) (fun b hb hm=>by cases hm);have hb15:=hb14.out.trans (hb5.mono hb14.out.size);clear hW5 hS4 hM4 hrow4' hb14 hb5;replace hS5:=iD hS5;replace hM5:=iD hM5;replace hrow5:=iD hrow5;replace hb15:=iD hb15;go_wp2_with fail;rw[lD];go_wp2_with fail;go_returns;exact⟨sb,mb,V,rfl,hS5.out,by rw[<-hds.out,<-hdc.out];exact hM5.out,hrow5.out,hb15.out⟩
end
end Go.Proofs.YtefjlobdifjogaaGreatDoor
